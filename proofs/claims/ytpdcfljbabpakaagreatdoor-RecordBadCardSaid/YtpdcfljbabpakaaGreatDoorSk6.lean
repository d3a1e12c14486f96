/- Texts joined. -/
import Derived.Test.YtpdcfljbabpakaaGreatDoorSk5
set_option linter.unusedVariables false
set_option linter.unusedSimpArgs false
set_option maxRecDepth 100000
set_option maxHeartbeats 8000000
namespace Go.Proofs.YtpdcfljbabpakaaGreatDoor
open Go Go.RowKit Go.Proofs.AE
variable {G : Nat → AV}
def at_api_Pair (cmp : Pr → Pr → Int) (l : List Pr) (t : Pr) (i : Nat) : Bool := match l[i]? with | some a => cmp a t == 0 | none => false
theorem bsearch_api_Pair (g : Nat) (cmp : Pr → Pr → Int) (l : List Pr) (t : Pr) (i : Nat) (hl : l.length ≤ 1000000) (he : enters Tryz.prog g = true) (hp : ∀ a b, PCall Tryz.prog G g [arg_api_Pair a, arg_api_Pair b] (iV (cmp a b)))
    (hi : i ≤ l.length) (h1 : ∀ (j : Nat) a, l[j]? = some a → j < i → cmp a t < 0) (h2 : ∀ (j : Nat) a, l[j]? = some a → i ≤ j → 0 ≤ cmp a t) :
    PCall Tryz.prog G 167 [.one (.v (.sl (l.map row_api_Pair))), arg_api_Pair t, .fn g [] []] (.tup [iV i, bV (at_api_Pair cmp l t i)]) := by
  refine pcallc mixed Tryz.func167 ac_slices_BinarySearchFunc_api_Pair_api_Pair ?_
  repeat' (first | (with_reducible first | refine Cn (fun h => ?_) fun h => ?_ | refine And.intro ?_ ?_ | refine wR ?_ | exact wr _ _ | refine wa ?_ | apply awp_join) | (with_reducible refine CallZ.z ?_) | simp -dsimp [go_sem])
  refine awp_loop (fun q : Nat × Nat => ⟨[(0, .one (.v (.sl (l.map row_api_Pair)))), (2, .fn g [] []), (4, .one (.ptr 0 0)), (8, iV l.length), (9, iV q.1), (10, iV q.2)], G, [some (.box 165 (match arg_api_Pair t with | .agg cs => cs | _ => []))]⟩) (fun q => q.1 ≤ i ∧ i ≤ q.2 ∧ q.2 ≤ l.length) (fun q => q.2 - q.1) (0, l.length) (weak_auto ?_) ⟨Nat.zero_le _, hi, Nat.le_refl _⟩ ?_
  · simp -dsimp [go_sem]
  · rintro ⟨lo, up⟩ ⟨q1, q2, q3⟩
    simp only at q1 q2 q3
    have w0 : IntKind.i64.wrap ((lo : Int) + up) = (lo : Int) + up := IntWalk.i64_in _ (by omega)
    simp -dsimp [go_sem]
    refine Cnd.intro (fun h => ?_) (fun h => ?_)
    · have hlt : lo < up := by simpa using h
      obtain ⟨m, hm, m1, m2⟩ : ∃ m : Nat, ((lo : Int) + up).fdiv 2 = m ∧ lo ≤ m ∧ m < up := by
        refine ⟨(lo + up) / 2, ?_, by omega, by omega⟩
        rw [Int.fdiv_eq_ediv_of_nonneg _ (by omega)]; omega
      have w1 : IntKind.u64.wrap ((lo : Int) + up) = (lo : Int) + up := IntWalk.u64_in _ (by omega)
      have w2 : IntKind.i64.wrap (m : Int) = m := IntWalk.i64_in _ (by omega)
      have w3 : IntKind.i64.wrap ((m : Int) + 1) = (m : Int) + 1 := IntWalk.i64_in _ (by omega)
      obtain ⟨a, ha⟩ : ∃ a, l[m]? = some a := ⟨_, List.getElem?_eq_getElem (by omega)⟩
      have hc := hp a t
      have k1 := h1 m a ha
      have k2 := h2 m a ha
      repeat' (first | (with_reducible first | refine Cn (fun h => ?_) fun h => ?_ | refine And.intro ?_ ?_ | refine wR ?_ | exact wr _ _ | refine wa ?_ | apply awp_join | refine q hc ?_ | refine qd hc ?_ | refine qz hc ?_) | (with_reducible refine CallZ.z ?_) | simp -dsimp [go_sem, w0, hm, w1, w2, w3, ha, he])
      all_goals first
        | (have hh : cmp a t < 0 := by simpa using h
           refine Again.auto (m + 1, up) ?_ ⟨?_, ?_, ?_⟩ ?_
           · simp -dsimp [go_sem]
           · show m + 1 ≤ i; omega
           · show i ≤ up; omega
           · show up ≤ l.length; omega
           · show up - (m + 1) < up - lo; omega)
        | (have hh : ¬ cmp a t < 0 := by simpa using h
           refine Again.auto (lo, m) ?_ ⟨?_, ?_, ?_⟩ ?_
           · simp -dsimp [go_sem]
           · show lo ≤ i; omega
           · show i ≤ m; omega
           · show m ≤ l.length; omega
           · show m - lo < up - lo; omega)
        | omega
    · have hge : lo = i := by simp at h; omega
      subst hge
      cases ha : l[lo]? with
      | none =>
        have hn : l.length ≤ lo := by simpa using ha
        have hlt : decide (lo < l.length) = false := by simp; omega
        simp only [at_api_Pair, ha]
        repeat' (first | (with_reducible first | refine Cn (fun h => ?_) fun h => ?_ | refine And.intro ?_ ?_ | refine wR ?_ | exact wr _ _ | refine wa ?_ | apply awp_join) | (with_reducible refine CallZ.z ?_) | simp -dsimp [go_sem, hlt])
      | some a =>
        have hn : lo < l.length := lt_of_getElem? ha
        have hlt : decide (lo < l.length) = true := by simp; omega
        have hc := hp a t
        simp only [at_api_Pair, ha]
        repeat' (first | (with_reducible first | refine Cn (fun h => ?_) fun h => ?_ | refine And.intro ?_ ?_ | refine wR ?_ | exact wr _ _ | refine wa ?_ | apply awp_join | refine q hc ?_ | refine qd hc ?_ | refine qz hc ?_) | (with_reducible refine CallZ.z ?_) | simp -dsimp [go_sem, hlt, ha, he])
def at_api_Score (cmp : Sc → Sc → Int) (l : List Sc) (t : Sc) (i : Nat) : Bool := match l[i]? with | some a => cmp a t == 0 | none => false
theorem bsearch_api_Score (g : Nat) (cmp : Sc → Sc → Int) (l : List Sc) (t : Sc) (i : Nat) (hl : l.length ≤ 1000000) (he : enters Tryz.prog g = true) (hp : ∀ a b, PCall Tryz.prog G g [arg_api_Score a, arg_api_Score b] (iV (cmp a b)))
    (hi : i ≤ l.length) (h1 : ∀ (j : Nat) a, l[j]? = some a → j < i → cmp a t < 0) (h2 : ∀ (j : Nat) a, l[j]? = some a → i ≤ j → 0 ≤ cmp a t) :
    PCall Tryz.prog G 175 [.one (.v (.sl (l.map row_api_Score))), arg_api_Score t, .fn g [] []] (.tup [iV i, bV (at_api_Score cmp l t i)]) := by
  refine pcallc mixed Tryz.func175 ac_slices_BinarySearchFunc_api_Score_api_Score ?_
  repeat' (first | (with_reducible first | refine Cn (fun h => ?_) fun h => ?_ | refine And.intro ?_ ?_ | refine wR ?_ | exact wr _ _ | refine wa ?_ | apply awp_join) | (with_reducible refine CallZ.z ?_) | simp -dsimp [go_sem])
  refine awp_loop (fun q : Nat × Nat => ⟨[(0, .one (.v (.sl (l.map row_api_Score)))), (2, .fn g [] []), (4, .one (.ptr 0 0)), (8, iV l.length), (9, iV q.1), (10, iV q.2)], G, [some (.box 167 (match arg_api_Score t with | .agg cs => cs | _ => []))]⟩) (fun q => q.1 ≤ i ∧ i ≤ q.2 ∧ q.2 ≤ l.length) (fun q => q.2 - q.1) (0, l.length) (weak_auto ?_) ⟨Nat.zero_le _, hi, Nat.le_refl _⟩ ?_
  · simp -dsimp [go_sem]
  · rintro ⟨lo, up⟩ ⟨q1, q2, q3⟩
    simp only at q1 q2 q3
    have w0 : IntKind.i64.wrap ((lo : Int) + up) = (lo : Int) + up := IntWalk.i64_in _ (by omega)
    simp -dsimp [go_sem]
    refine Cnd.intro (fun h => ?_) (fun h => ?_)
    · have hlt : lo < up := by simpa using h
      obtain ⟨m, hm, m1, m2⟩ : ∃ m : Nat, ((lo : Int) + up).fdiv 2 = m ∧ lo ≤ m ∧ m < up := by
        refine ⟨(lo + up) / 2, ?_, by omega, by omega⟩
        rw [Int.fdiv_eq_ediv_of_nonneg _ (by omega)]; omega
      have w1 : IntKind.u64.wrap ((lo : Int) + up) = (lo : Int) + up := IntWalk.u64_in _ (by omega)
      have w2 : IntKind.i64.wrap (m : Int) = m := IntWalk.i64_in _ (by omega)
      have w3 : IntKind.i64.wrap ((m : Int) + 1) = (m : Int) + 1 := IntWalk.i64_in _ (by omega)
      obtain ⟨a, ha⟩ : ∃ a, l[m]? = some a := ⟨_, List.getElem?_eq_getElem (by omega)⟩
      have hc := hp a t
      have k1 := h1 m a ha
      have k2 := h2 m a ha
      repeat' (first | (with_reducible first | refine Cn (fun h => ?_) fun h => ?_ | refine And.intro ?_ ?_ | refine wR ?_ | exact wr _ _ | refine wa ?_ | apply awp_join | refine q hc ?_ | refine qd hc ?_ | refine qz hc ?_) | (with_reducible refine CallZ.z ?_) | simp -dsimp [go_sem, w0, hm, w1, w2, w3, ha, he])
      all_goals first
        | (have hh : cmp a t < 0 := by simpa using h
           refine Again.auto (m + 1, up) ?_ ⟨?_, ?_, ?_⟩ ?_
           · simp -dsimp [go_sem]
           · show m + 1 ≤ i; omega
           · show i ≤ up; omega
           · show up ≤ l.length; omega
           · show up - (m + 1) < up - lo; omega)
        | (have hh : ¬ cmp a t < 0 := by simpa using h
           refine Again.auto (lo, m) ?_ ⟨?_, ?_, ?_⟩ ?_
           · simp -dsimp [go_sem]
           · show lo ≤ i; omega
           · show i ≤ m; omega
           · show m ≤ l.length; omega
           · show m - lo < up - lo; omega)
        | omega
    · have hge : lo = i := by simp at h; omega
      subst hge
      cases ha : l[lo]? with
      | none =>
        have hn : l.length ≤ lo := by simpa using ha
        have hlt : decide (lo < l.length) = false := by simp; omega
        simp only [at_api_Score, ha]
        repeat' (first | (with_reducible first | refine Cn (fun h => ?_) fun h => ?_ | refine And.intro ?_ ?_ | refine wR ?_ | exact wr _ _ | refine wa ?_ | apply awp_join) | (with_reducible refine CallZ.z ?_) | simp -dsimp [go_sem, hlt])
      | some a =>
        have hn : lo < l.length := lt_of_getElem? ha
        have hlt : decide (lo < l.length) = true := by simp; omega
        have hc := hp a t
        simp only [at_api_Score, ha]
        repeat' (first | (with_reducible first | refine Cn (fun h => ?_) fun h => ?_ | refine And.intro ?_ ?_ | refine wR ?_ | exact wr _ _ | refine wa ?_ | apply awp_join | refine q hc ?_ | refine qd hc ?_ | refine qz hc ?_) | (with_reducible refine CallZ.z ?_) | simp -dsimp [go_sem, hlt, ha, he])
abbrev lessB (a b : ByteArray) : Bool := Op.bytesLess a.data.toList b.data.toList
def at_string (l : List ByteArray) (t : ByteArray) (i : Nat) : Bool := match l[i]? with | some a => decide (a = t) | none => false
theorem bsearch_string (l : List ByteArray) (t : ByteArray) (i : Nat) (hl : l.length ≤ 1000000)
    (hi : i ≤ l.length) (h1 : ∀ (j : Nat) a, l[j]? = some a → j < i → lessB a t = true) (h2 : ∀ (j : Nat) a, l[j]? = some a → i ≤ j → lessB a t = false) :
    PCall Tryz.prog G 172 [.one (.v (.sl (strRows l))), sV t] (.tup [iV i, bV (at_string l t i)]) := by
  refine pcallc mixed Tryz.func172 ac_slices_BinarySearch_string ?_
  repeat' (first | (with_reducible first | refine Cn (fun h => ?_) fun h => ?_ | refine And.intro ?_ ?_ | refine wR ?_ | exact wr _ _ | refine wa ?_ | apply awp_join) | (with_reducible refine CallZ.z ?_) | simp -dsimp [go_sem])
  refine awp_loop (fun q : Nat × Nat => ⟨[(0, .one (.v (.sl (strRows l)))), (1, sV t), (6, iV l.length), (7, iV q.1), (8, iV q.2)], G, []⟩) (fun q => q.1 ≤ i ∧ i ≤ q.2 ∧ q.2 ≤ l.length) (fun q => q.2 - q.1) (0, l.length) (weak_auto ?_) ⟨Nat.zero_le _, hi, Nat.le_refl _⟩ ?_
  · simp -dsimp [go_sem]
  · rintro ⟨lo, up⟩ ⟨q1, q2, q3⟩
    simp only at q1 q2 q3
    have w0 : IntKind.i64.wrap ((lo : Int) + up) = (lo : Int) + up := IntWalk.i64_in _ (by omega)
    simp -dsimp [go_sem]
    refine Cnd.intro (fun h => ?_) (fun h => ?_)
    · have hlt : lo < up := by simpa using h
      obtain ⟨m, hm, m1, m2⟩ : ∃ m : Nat, ((lo : Int) + up).fdiv 2 = m ∧ lo ≤ m ∧ m < up := by
        refine ⟨(lo + up) / 2, ?_, by omega, by omega⟩
        rw [Int.fdiv_eq_ediv_of_nonneg _ (by omega)]; omega
      have w1 : IntKind.u64.wrap ((lo : Int) + up) = (lo : Int) + up := IntWalk.u64_in _ (by omega)
      have w2 : IntKind.i64.wrap (m : Int) = m := IntWalk.i64_in _ (by omega)
      have w3 : IntKind.i64.wrap ((m : Int) + 1) = (m : Int) + 1 := IntWalk.i64_in _ (by omega)
      obtain ⟨a, ha⟩ : ∃ a, l[m]? = some a := ⟨_, List.getElem?_eq_getElem (by omega)⟩
      have k1 := h1 m a ha
      have k2 := h2 m a ha
      cases hq : lessB a t with
      | true =>
        have hh : m < i := by
          rcases Nat.lt_or_ge m i with h | h
          · exact h
          · rw [k2 h] at hq; cases hq
        have hc := lessS_c (G := G) a t
        rw [show Op.bytesLess a.data.toList t.data.toList = _ from hq] at hc
        repeat' (first | (with_reducible first | refine Cn (fun h => ?_) fun h => ?_ | refine And.intro ?_ ?_ | refine wR ?_ | exact wr _ _ | refine wa ?_ | apply awp_join | refine q hc ?_ | refine qd hc ?_ | refine qz hc ?_) | (with_reducible refine CallZ.z ?_) | simp -dsimp [go_sem, w0, hm, w1, w2, w3, ha])
        all_goals first
          | (refine Again.auto (m + 1, up) ?_ ⟨?_, ?_, ?_⟩ ?_
             · simp -dsimp [go_sem]
             · show m + 1 ≤ i; omega
             · show i ≤ up; omega
             · show up ≤ l.length; omega
             · show up - (m + 1) < up - lo; omega)
          | omega
      | false =>
        have hh : i ≤ m := by
          rcases Nat.lt_or_ge m i with h | h
          · rw [k1 h] at hq; cases hq
          · exact h
        have hc := lessS_c (G := G) a t
        rw [show Op.bytesLess a.data.toList t.data.toList = _ from hq] at hc
        repeat' (first | (with_reducible first | refine Cn (fun h => ?_) fun h => ?_ | refine And.intro ?_ ?_ | refine wR ?_ | exact wr _ _ | refine wa ?_ | apply awp_join | refine q hc ?_ | refine qd hc ?_ | refine qz hc ?_) | (with_reducible refine CallZ.z ?_) | simp -dsimp [go_sem, w0, hm, w1, w2, w3, ha])
        all_goals first
          | (refine Again.auto (lo, m) ?_ ⟨?_, ?_, ?_⟩ ?_
             · simp -dsimp [go_sem]
             · show lo ≤ i; omega
             · show i ≤ m; omega
             · show m ≤ l.length; omega
             · show m - lo < up - lo; omega)
          | omega
    · have hge : lo = i := by simp at h; omega
      subst hge
      cases ha : l[lo]? with
      | none =>
        have hn : l.length ≤ lo := by simpa using ha
        have hlt : decide (lo < l.length) = false := by simp; omega
        simp only [at_string, ha]
        repeat' (first | (with_reducible first | refine Cn (fun h => ?_) fun h => ?_ | refine And.intro ?_ ?_ | refine wR ?_ | exact wr _ _ | refine wa ?_ | apply awp_join) | (with_reducible refine CallZ.z ?_) | simp -dsimp [go_sem, hlt])
      | some a =>
        have hn : lo < l.length := lt_of_getElem? ha
        have hlt : decide (lo < l.length) = true := by simp; omega
        simp only [at_string, ha]
        repeat' (first | (with_reducible first | refine Cn (fun h => ?_) fun h => ?_ | refine And.intro ?_ ?_ | refine wR ?_ | exact wr _ _ | refine wa ?_ | apply awp_join | refine q (isNaNs2_c _) ?_ | refine qd (isNaNs2_c _) ?_ | refine qz (isNaNs2_c _) ?_) | (with_reducible refine CallZ.z ?_) | simp -dsimp [go_sem, hlt, ha])
        all_goals simp_all
end Go.Proofs.YtpdcfljbabpakaaGreatDoor
set_option linter.unusedVariables false
set_option linter.unusedSimpArgs false
set_option maxRecDepth 100000
set_option maxHeartbeats 8000000
namespace Go.Proofs.YtpdcfljbabpakaaGreatDoor
open Go Go.RowKit Go.Proofs.AE
variable {G : Nat → AV}
theorem wr_shift {rows : List (List V)} {i : Nat} (hi : i < rows.length) : wrRows rows (rows.drop i) (i + 1) = rows.take (i + 1) ++ rows.drop i := by
  unfold wrRows
  have h : rows.drop (i + 1 + (rows.drop i).length) = [] := List.drop_eq_nil_of_le (by rw [List.length_drop]; omega)
  rw [h, List.append_nil]
theorem wr_ins {rows : List (List V)} {x : List V} {i : Nat} (hi : i < rows.length) : wrRows (rows.take (i + 1) ++ rows.drop i) [x] i = insAt rows i x := by
  unfold wrRows insAt
  have h1 : (rows.take (i + 1)).length = i + 1 := by rw [List.length_take]; omega
  rw [List.take_append_of_le_length (by omega), List.take_take, Nat.min_eq_left (by omega), List.length_singleton, List.drop_left' h1]
  simp
theorem ins_len {rows : List (List V)} {x : List V} {i : Nat} (hi : i ≤ rows.length) : (insAt rows i x).length = rows.length + 1 := by
  unfold insAt
  simp only [List.length_append, List.length_cons, List.length_take, List.length_drop]; omega
theorem wr_fresh {rows : List (List V)} {x z : List V} {i D : Nat} (hi : i < rows.length) (hD : i + D = rows.length + 1) : wrRows (wrRows (rows.take i ++ List.replicate D z) [x] i) (rows.drop i) (i + 1) = insAt rows i x := by
  have h1 : (rows.take i).length = i := by rw [List.length_take]; omega
  have e1 : wrRows (rows.take i ++ List.replicate D z) [x] i = (rows.take i ++ [x]) ++ List.replicate (D - 1) z := by
    have h3 : (rows.take i).drop (i + 1) = [] := List.drop_eq_nil_of_le (by omega)
    unfold wrRows
    rw [List.take_left' h1, List.length_singleton, List.drop_append, h3, h1, show i + 1 - i = 1 by omega, List.nil_append, List.drop_replicate]
  rw [e1]
  have h2 : (rows.take i ++ [x]).length = i + 1 := by rw [List.length_append, h1]; rfl
  have h4 : (rows.take i ++ [x] ++ List.replicate (D - 1) z).drop (i + 1 + (rows.drop i).length) = [] := List.drop_eq_nil_of_le (by rw [List.length_append, h2, List.length_replicate, List.length_drop]; omega)
  unfold wrRows insAt
  rw [List.take_left' h2, h4]
  simp
theorem wr_length {rows new : List (List V)} {i : Nat} (h1 : i ≤ rows.length) (h2 : i + new.length ≤ rows.length) : (wrRows rows new i).length = rows.length := by
  rw [wr_len h1]; omega
theorem ul_one {k : Nat} {x : List V} (h : x.length = k) : UL k [x] := by
  intro r hr
  simp at hr
  subst hr
  exact h
theorem i64_nat {n : Nat} (h : n ≤ 9223372036854775807) : IntKind.i64.wrap (n : Int) = n := IntWalk.i64_in _ (by omega)
theorem ovl_api_Pair : OvlF Tryz.prog 178 165 := ⟨_, 114, 4, Tryz.func178, by kernel_rfl, by kernel_rfl, by kernel_rfl, by kernel_rfl, by kernel_rfl⟩
theorem insert_api_Pair (rows : List (List V)) (x : List V) (i : Nat) (hx : x.length = 2) (hi : i ≤ rows.length) (hl : rows.length ≤ 1000000) :
    DetCall Tryz.prog G 168 0 [some (.arr 165 2 rows), some (.arr 165 2 [x])] [.one (.ar 0), iV i, .one (.ar 1)] (.one (.ar 0)) [some (.arr 165 2 (insAt rows i x))] := by
  refine DetCall.arj (by decide) fun c hc1 hc2 hul => ?_
  have hc3 : c ≤ 9223372036854775807 := hc2
  have hov := ovl_api_Pair
  have hul2 := ul_one hx
  have hul3 := hul.drop i
  have hil := ins_len (x := x) hi
  have e1 : IntKind.i64.wrap ((rows.length : Int) + 1) = (rows.length : Int) + 1 := IntWalk.i64_in _ (by omega)
  have e2 : IntKind.i64.wrap ((i : Int) + 1) = (i : Int) + 1 := IntWalk.i64_in _ (by omega)
  rcases Nat.lt_or_ge i rows.length with h0 | h0
  · have q0 : ((i : Int) == (rows.length : Int)) = false := by simp; omega
    obtain ⟨D, hD⟩ : ∃ D, rows.length + 1 - i = D := ⟨_, rfl⟩
    have m4 : i + D = rows.length + 1 := by omega
    have e3 : IntKind.i64.wrap ((rows.length : Int) + 1 - i) = (D : Int) := by rw [show ((rows.length : Int) + 1 - i) = (D : Int) by omega]; exact i64_nat (by omega)
    have w1 := wr_shift h0
    have w2 := wr_ins (x := x) h0
    have w3 := fun z => wr_fresh (x := x) (z := z) h0 m4
    have t1 : (rows.drop i).take (rows.length - i) = rows.drop i := List.take_of_length_le (by rw [List.length_drop]; omega)
    have t3 : (rows.take (i + 1) ++ rows.drop i).length = rows.length + 1 := by simp; omega
    have t2 : List.take (rows.length + 1) (insAt rows i x) = insAt rows i x := List.take_of_length_le (by omega)
    have t4 : ∀ z, (wrRows (rows.take i ++ List.replicate D z) [x] i).length = rows.length + 1 := fun z => by
      have h1 : (rows.take i ++ List.replicate D z).length = rows.length + 1 := by rw [List.length_append, List.length_take, List.length_replicate]; omega
      rw [wr_length (by omega) (by simp; omega), h1]
    have m1 : min D (rows.length - i) = rows.length - i := by omega
    have m2 : min 1 D = 1 := by omega
    have m5 : min i rows.length + D = rows.length + 1 := by omega
    have n1 : ((i : Int) + (D : Int)) = (rows.length : Int) + 1 := by omega
    by_cases h1 : c < rows.length + 1
    · have q1 : decide ((c : Int) < (rows.length : Int) + 1) = true := by simp; omega
      refine gcallc mixed Tryz.func168 ac_slices_Insert_api_Pair ?_
      repeat' (first | (with_reducible first | refine Cn (fun h => ?_) fun h => ?_ | refine And.intro ?_ ?_ | refine wR ?_ | exact wr _ _ | refine wa ?_ | apply awp_join) | (intro (c1 : Nat) hq1 hq2) | (with_reducible refine CallZ.z ?_) | simp -dsimp [go_sem, e1, e2, e3, q0, q1, hD, m1, m2, m4, m5, n1, t1, t2, t4, w3, hil, Nat.sub_zero])
      all_goals first | omega | assumption
    · have q1 : decide ((c : Int) < (rows.length : Int) + 1) = false := by simp; omega
      refine gcallc mixed Tryz.func168 ac_slices_Insert_api_Pair ?_
      repeat' (first | (with_reducible first | refine Cn (fun h => ?_) fun h => ?_ | refine And.intro ?_ ?_ | refine wR ?_ | exact wr _ _ | refine wa ?_ | apply awp_join) | (with_reducible refine CallZ.z ?_) | simp -dsimp [go_sem, e1, e2, e3, q0, q1, hD, m1, m2, m4, m5, n1, t1, t2, t3, w1, w2, hil, Nat.sub_zero])
      all_goals first | omega | assumption
  · have h1 : i = rows.length := by omega
    subst h1
    have w4 : insAt rows rows.length x = rows ++ [x] := by unfold insAt; simp
    refine gcallc mixed Tryz.func168 ac_slices_Insert_api_Pair ?_
    repeat' (first | (with_reducible first | refine Cn (fun h => ?_) fun h => ?_ | refine And.intro ?_ ?_ | refine wR ?_ | exact wr _ _ | refine wa ?_ | apply awp_join) | (with_reducible refine CallZ.z ?_) | simp -dsimp [go_sem, e1, e2, Nat.sub_zero, w4])
    all_goals first | omega | assumption
theorem ovl_api_Score : OvlF Tryz.prog 184 167 := ⟨_, 115, 4, Tryz.func184, by kernel_rfl, by kernel_rfl, by kernel_rfl, by kernel_rfl, by kernel_rfl⟩
theorem insert_api_Score (rows : List (List V)) (x : List V) (i : Nat) (hx : x.length = 2) (hi : i ≤ rows.length) (hl : rows.length ≤ 1000000) :
    DetCall Tryz.prog G 176 0 [some (.arr 167 2 rows), some (.arr 167 2 [x])] [.one (.ar 0), iV i, .one (.ar 1)] (.one (.ar 0)) [some (.arr 167 2 (insAt rows i x))] := by
  refine DetCall.arj (by decide) fun c hc1 hc2 hul => ?_
  have hc3 : c ≤ 9223372036854775807 := hc2
  have hov := ovl_api_Score
  have hul2 := ul_one hx
  have hul3 := hul.drop i
  have hil := ins_len (x := x) hi
  have e1 : IntKind.i64.wrap ((rows.length : Int) + 1) = (rows.length : Int) + 1 := IntWalk.i64_in _ (by omega)
  have e2 : IntKind.i64.wrap ((i : Int) + 1) = (i : Int) + 1 := IntWalk.i64_in _ (by omega)
  rcases Nat.lt_or_ge i rows.length with h0 | h0
  · have q0 : ((i : Int) == (rows.length : Int)) = false := by simp; omega
    obtain ⟨D, hD⟩ : ∃ D, rows.length + 1 - i = D := ⟨_, rfl⟩
    have m4 : i + D = rows.length + 1 := by omega
    have e3 : IntKind.i64.wrap ((rows.length : Int) + 1 - i) = (D : Int) := by rw [show ((rows.length : Int) + 1 - i) = (D : Int) by omega]; exact i64_nat (by omega)
    have w1 := wr_shift h0
    have w2 := wr_ins (x := x) h0
    have w3 := fun z => wr_fresh (x := x) (z := z) h0 m4
    have t1 : (rows.drop i).take (rows.length - i) = rows.drop i := List.take_of_length_le (by rw [List.length_drop]; omega)
    have t3 : (rows.take (i + 1) ++ rows.drop i).length = rows.length + 1 := by simp; omega
    have t2 : List.take (rows.length + 1) (insAt rows i x) = insAt rows i x := List.take_of_length_le (by omega)
    have t4 : ∀ z, (wrRows (rows.take i ++ List.replicate D z) [x] i).length = rows.length + 1 := fun z => by
      have h1 : (rows.take i ++ List.replicate D z).length = rows.length + 1 := by rw [List.length_append, List.length_take, List.length_replicate]; omega
      rw [wr_length (by omega) (by simp; omega), h1]
    have m1 : min D (rows.length - i) = rows.length - i := by omega
    have m2 : min 1 D = 1 := by omega
    have m5 : min i rows.length + D = rows.length + 1 := by omega
    have n1 : ((i : Int) + (D : Int)) = (rows.length : Int) + 1 := by omega
    by_cases h1 : c < rows.length + 1
    · have q1 : decide ((c : Int) < (rows.length : Int) + 1) = true := by simp; omega
      refine gcallc mixed Tryz.func176 ac_slices_Insert_api_Score ?_
      repeat' (first | (with_reducible first | refine Cn (fun h => ?_) fun h => ?_ | refine And.intro ?_ ?_ | refine wR ?_ | exact wr _ _ | refine wa ?_ | apply awp_join) | (intro (c1 : Nat) hq1 hq2) | (with_reducible refine CallZ.z ?_) | simp -dsimp [go_sem, e1, e2, e3, q0, q1, hD, m1, m2, m4, m5, n1, t1, t2, t4, w3, hil, Nat.sub_zero])
      all_goals first | omega | assumption
    · have q1 : decide ((c : Int) < (rows.length : Int) + 1) = false := by simp; omega
      refine gcallc mixed Tryz.func176 ac_slices_Insert_api_Score ?_
      repeat' (first | (with_reducible first | refine Cn (fun h => ?_) fun h => ?_ | refine And.intro ?_ ?_ | refine wR ?_ | exact wr _ _ | refine wa ?_ | apply awp_join) | (with_reducible refine CallZ.z ?_) | simp -dsimp [go_sem, e1, e2, e3, q0, q1, hD, m1, m2, m4, m5, n1, t1, t2, t3, w1, w2, hil, Nat.sub_zero])
      all_goals first | omega | assumption
  · have h1 : i = rows.length := by omega
    subst h1
    have w4 : insAt rows rows.length x = rows ++ [x] := by unfold insAt; simp
    refine gcallc mixed Tryz.func176 ac_slices_Insert_api_Score ?_
    repeat' (first | (with_reducible first | refine Cn (fun h => ?_) fun h => ?_ | refine And.intro ?_ ?_ | refine wR ?_ | exact wr _ _ | refine wa ?_ | apply awp_join) | (with_reducible refine CallZ.z ?_) | simp -dsimp [go_sem, e1, e2, Nat.sub_zero, w4])
    all_goals first | omega | assumption
theorem ovl_string : OvlF Tryz.prog 180 9 := ⟨_, 104, 4, Tryz.func180, by kernel_rfl, by kernel_rfl, by kernel_rfl, by kernel_rfl, by kernel_rfl⟩
theorem insert_string (rows : List (List V)) (x : List V) (i : Nat) (hx : x.length = 1) (hi : i ≤ rows.length) (hl : rows.length ≤ 1000000) :
    DetCall Tryz.prog G 171 0 [some (.arr 9 1 rows), some (.arr 9 1 [x])] [.one (.ar 0), iV i, .one (.ar 1)] (.one (.ar 0)) [some (.arr 9 1 (insAt rows i x))] := by
  refine DetCall.arj (by decide) fun c hc1 hc2 hul => ?_
  have hc3 : c ≤ 9223372036854775807 := hc2
  have hov := ovl_string
  have hul2 := ul_one hx
  have hul3 := hul.drop i
  have hil := ins_len (x := x) hi
  have e1 : IntKind.i64.wrap ((rows.length : Int) + 1) = (rows.length : Int) + 1 := IntWalk.i64_in _ (by omega)
  have e2 : IntKind.i64.wrap ((i : Int) + 1) = (i : Int) + 1 := IntWalk.i64_in _ (by omega)
  rcases Nat.lt_or_ge i rows.length with h0 | h0
  · have q0 : ((i : Int) == (rows.length : Int)) = false := by simp; omega
    obtain ⟨D, hD⟩ : ∃ D, rows.length + 1 - i = D := ⟨_, rfl⟩
    have m4 : i + D = rows.length + 1 := by omega
    have e3 : IntKind.i64.wrap ((rows.length : Int) + 1 - i) = (D : Int) := by rw [show ((rows.length : Int) + 1 - i) = (D : Int) by omega]; exact i64_nat (by omega)
    have w1 := wr_shift h0
    have w2 := wr_ins (x := x) h0
    have w3 := fun z => wr_fresh (x := x) (z := z) h0 m4
    have t1 : (rows.drop i).take (rows.length - i) = rows.drop i := List.take_of_length_le (by rw [List.length_drop]; omega)
    have t3 : (rows.take (i + 1) ++ rows.drop i).length = rows.length + 1 := by simp; omega
    have t2 : List.take (rows.length + 1) (insAt rows i x) = insAt rows i x := List.take_of_length_le (by omega)
    have t4 : ∀ z, (wrRows (rows.take i ++ List.replicate D z) [x] i).length = rows.length + 1 := fun z => by
      have h1 : (rows.take i ++ List.replicate D z).length = rows.length + 1 := by rw [List.length_append, List.length_take, List.length_replicate]; omega
      rw [wr_length (by omega) (by simp; omega), h1]
    have m1 : min D (rows.length - i) = rows.length - i := by omega
    have m2 : min 1 D = 1 := by omega
    have m5 : min i rows.length + D = rows.length + 1 := by omega
    have n1 : ((i : Int) + (D : Int)) = (rows.length : Int) + 1 := by omega
    by_cases h1 : c < rows.length + 1
    · have q1 : decide ((c : Int) < (rows.length : Int) + 1) = true := by simp; omega
      refine gcallc mixed Tryz.func171 ac_slices_Insert_string ?_
      repeat' (first | (with_reducible first | refine Cn (fun h => ?_) fun h => ?_ | refine And.intro ?_ ?_ | refine wR ?_ | exact wr _ _ | refine wa ?_ | apply awp_join) | (intro (c1 : Nat) hq1 hq2) | (with_reducible refine CallZ.z ?_) | simp -dsimp [go_sem, e1, e2, e3, q0, q1, hD, m1, m2, m4, m5, n1, t1, t2, t4, w3, hil, Nat.sub_zero])
      all_goals first | omega | assumption
    · have q1 : decide ((c : Int) < (rows.length : Int) + 1) = false := by simp; omega
      refine gcallc mixed Tryz.func171 ac_slices_Insert_string ?_
      repeat' (first | (with_reducible first | refine Cn (fun h => ?_) fun h => ?_ | refine And.intro ?_ ?_ | refine wR ?_ | exact wr _ _ | refine wa ?_ | apply awp_join) | (with_reducible refine CallZ.z ?_) | simp -dsimp [go_sem, e1, e2, e3, q0, q1, hD, m1, m2, m4, m5, n1, t1, t2, t3, w1, w2, hil, Nat.sub_zero])
      all_goals first | omega | assumption
  · have h1 : i = rows.length := by omega
    subst h1
    have w4 : insAt rows rows.length x = rows ++ [x] := by unfold insAt; simp
    refine gcallc mixed Tryz.func171 ac_slices_Insert_string ?_
    repeat' (first | (with_reducible first | refine Cn (fun h => ?_) fun h => ?_ | refine And.intro ?_ ?_ | refine wR ?_ | exact wr _ _ | refine wa ?_ | apply awp_join) | (with_reducible refine CallZ.z ?_) | simp -dsimp [go_sem, e1, e2, Nat.sub_zero, w4])
    all_goals first | omega | assumption
theorem ovl_api_Entry : OvlF Tryz.prog 165 119 := ⟨_, 23, 4, Tryz.func165, by kernel_rfl, by kernel_rfl, by kernel_rfl, by kernel_rfl, by kernel_rfl⟩
theorem insert_api_Entry (rows : List (List V)) (x : List V) (i : Nat) (hx : x.length = 8) (hi : i ≤ rows.length) (hl : rows.length ≤ 1000000) :
    DetCall Tryz.prog G 155 0 [some (.arr 119 8 rows), some (.arr 119 8 [x])] [.one (.ar 0), iV i, .one (.ar 1)] (.one (.ar 0)) [some (.arr 119 8 (insAt rows i x))] := by
  refine DetCall.arj (by decide) fun c hc1 hc2 hul => ?_
  have hc3 : c ≤ 9223372036854775807 := hc2
  have hov := ovl_api_Entry
  have hul2 := ul_one hx
  have hul3 := hul.drop i
  have hil := ins_len (x := x) hi
  have e1 : IntKind.i64.wrap ((rows.length : Int) + 1) = (rows.length : Int) + 1 := IntWalk.i64_in _ (by omega)
  have e2 : IntKind.i64.wrap ((i : Int) + 1) = (i : Int) + 1 := IntWalk.i64_in _ (by omega)
  rcases Nat.lt_or_ge i rows.length with h0 | h0
  · have q0 : ((i : Int) == (rows.length : Int)) = false := by simp; omega
    obtain ⟨D, hD⟩ : ∃ D, rows.length + 1 - i = D := ⟨_, rfl⟩
    have m4 : i + D = rows.length + 1 := by omega
    have e3 : IntKind.i64.wrap ((rows.length : Int) + 1 - i) = (D : Int) := by rw [show ((rows.length : Int) + 1 - i) = (D : Int) by omega]; exact i64_nat (by omega)
    have w1 := wr_shift h0
    have w2 := wr_ins (x := x) h0
    have w3 := fun z => wr_fresh (x := x) (z := z) h0 m4
    have t1 : (rows.drop i).take (rows.length - i) = rows.drop i := List.take_of_length_le (by rw [List.length_drop]; omega)
    have t3 : (rows.take (i + 1) ++ rows.drop i).length = rows.length + 1 := by simp; omega
    have t2 : List.take (rows.length + 1) (insAt rows i x) = insAt rows i x := List.take_of_length_le (by omega)
    have t4 : ∀ z, (wrRows (rows.take i ++ List.replicate D z) [x] i).length = rows.length + 1 := fun z => by
      have h1 : (rows.take i ++ List.replicate D z).length = rows.length + 1 := by rw [List.length_append, List.length_take, List.length_replicate]; omega
      rw [wr_length (by omega) (by simp; omega), h1]
    have m1 : min D (rows.length - i) = rows.length - i := by omega
    have m2 : min 1 D = 1 := by omega
    have m5 : min i rows.length + D = rows.length + 1 := by omega
    have n1 : ((i : Int) + (D : Int)) = (rows.length : Int) + 1 := by omega
    by_cases h1 : c < rows.length + 1
    · have q1 : decide ((c : Int) < (rows.length : Int) + 1) = true := by simp; omega
      refine gcallc mixed Tryz.func155 ac_slices_Insert_api_Entry ?_
      repeat' (first | (with_reducible first | refine Cn (fun h => ?_) fun h => ?_ | refine And.intro ?_ ?_ | refine wR ?_ | exact wr _ _ | refine wa ?_ | apply awp_join) | (intro (c1 : Nat) hq1 hq2) | (with_reducible refine CallZ.z ?_) | simp -dsimp [go_sem, e1, e2, e3, q0, q1, hD, m1, m2, m4, m5, n1, t1, t2, t4, w3, hil, Nat.sub_zero])
      all_goals first | omega | assumption
    · have q1 : decide ((c : Int) < (rows.length : Int) + 1) = false := by simp; omega
      refine gcallc mixed Tryz.func155 ac_slices_Insert_api_Entry ?_
      repeat' (first | (with_reducible first | refine Cn (fun h => ?_) fun h => ?_ | refine And.intro ?_ ?_ | refine wR ?_ | exact wr _ _ | refine wa ?_ | apply awp_join) | (with_reducible refine CallZ.z ?_) | simp -dsimp [go_sem, e1, e2, e3, q0, q1, hD, m1, m2, m4, m5, n1, t1, t2, t3, w1, w2, hil, Nat.sub_zero])
      all_goals first | omega | assumption
  · have h1 : i = rows.length := by omega
    subst h1
    have w4 : insAt rows rows.length x = rows ++ [x] := by unfold insAt; simp
    refine gcallc mixed Tryz.func155 ac_slices_Insert_api_Entry ?_
    repeat' (first | (with_reducible first | refine Cn (fun h => ?_) fun h => ?_ | refine And.intro ?_ ?_ | refine wR ?_ | exact wr _ _ | refine wa ?_ | apply awp_join) | (with_reducible refine CallZ.z ?_) | simp -dsimp [go_sem, e1, e2, Nat.sub_zero, w4])
    all_goals first | omega | assumption
theorem wr_del {rows : List (List V)} {i m : Nat} (hi : i < rows.length) (hm : m = rows.length - (i + 1)) : wrRows rows ((rows.drop (i + 1)).take m) i = delAt rows i ++ rows.drop (rows.length - 1) := by
  have h1 : (rows.drop (i + 1)).take m = rows.drop (i + 1) := List.take_of_length_le (by rw [List.length_drop]; omega)
  unfold wrRows delAt
  rw [h1, List.length_drop, show i + (rows.length - (i + 1)) = rows.length - 1 by omega]
theorem del_len {rows : List (List V)} {i : Nat} (hi : i < rows.length) : (delAt rows i).length = rows.length - 1 := by
  unfold delAt
  simp only [List.length_append, List.length_take, List.length_drop]; omega
theorem wr_end {a b z : List (List V)} (h : z.length = b.length) : wrRows (a ++ b) z a.length = a ++ z := by
  unfold wrRows
  rw [List.take_left' rfl, List.drop_append, List.drop_eq_nil_of_le (by omega), List.drop_eq_nil_of_le (by omega)]
  simp
theorem delete_api_Pair (rows : List (List V)) (i : Nat) (hi : i < rows.length) (hl : rows.length ≤ 1000000) :
    DetCall Tryz.prog G 169 0 [some (.arr 165 2 rows)] [.one (.ar 0), iV i, iV ((i : Int) + 1)] (.one (.ar 0)) [some (.arr 165 2 (delAt rows i))] := by
  refine DetCall.arj (by decide) fun c hc1 hc2 hul => ?_
  have hc3 : c ≤ 9223372036854775807 := hc2
  have q0 : ((i : Int) == (i : Int) + 1) = false := by simp; omega
  obtain ⟨M, hM⟩ : ∃ M, rows.length - (i + 1) = M := ⟨_, rfl⟩
  have m1 : i + M = rows.length - 1 := by omega
  have w1 := wr_del hi hM.symm
  rw [← m1] at w1
  have hdl := del_len hi
  rw [← m1] at hdl
  have hrl : (rows.drop (i + M)).length = 1 := by rw [List.length_drop]; omega
  have m2 : rows.length - (i + M) = 1 := by omega
  have w2 : ∀ z, wrRows (delAt rows i ++ rows.drop (i + M)) [z] (i + M) = delAt rows i ++ [z] := fun z => by rw [← hdl]; exact wr_end (by rw [hdl, hrl]; rfl)
  have m3 : ((i : Int) + (M : Int)).toNat = i + M := by omega
  have t1 : ∀ z, (delAt rows i ++ [z]).take (i + M) = delAt rows i := fun z => List.take_left' hdl
  refine gcallc mixed Tryz.func169 ac_slices_Delete_api_Pair ?_
  repeat' (first | (with_reducible first | refine Cn (fun h => ?_) fun h => ?_ | refine And.intro ?_ ?_ | refine wR ?_ | exact wr _ _ | refine wa ?_ | apply awp_join) | (with_reducible refine CallZ.z ?_) | simp -dsimp [go_sem, q0, hM, m2, m3, w1, w2, t1, hdl, List.length_append, hrl, List.replicate_one])
  all_goals first | omega | assumption
theorem delete_api_Score (rows : List (List V)) (i : Nat) (hi : i < rows.length) (hl : rows.length ≤ 1000000) :
    DetCall Tryz.prog G 174 0 [some (.arr 167 2 rows)] [.one (.ar 0), iV i, iV ((i : Int) + 1)] (.one (.ar 0)) [some (.arr 167 2 (delAt rows i))] := by
  refine DetCall.arj (by decide) fun c hc1 hc2 hul => ?_
  have hc3 : c ≤ 9223372036854775807 := hc2
  have q0 : ((i : Int) == (i : Int) + 1) = false := by simp; omega
  obtain ⟨M, hM⟩ : ∃ M, rows.length - (i + 1) = M := ⟨_, rfl⟩
  have m1 : i + M = rows.length - 1 := by omega
  have w1 := wr_del hi hM.symm
  rw [← m1] at w1
  have hdl := del_len hi
  rw [← m1] at hdl
  have hrl : (rows.drop (i + M)).length = 1 := by rw [List.length_drop]; omega
  have m2 : rows.length - (i + M) = 1 := by omega
  have w2 : ∀ z, wrRows (delAt rows i ++ rows.drop (i + M)) [z] (i + M) = delAt rows i ++ [z] := fun z => by rw [← hdl]; exact wr_end (by rw [hdl, hrl]; rfl)
  have m3 : ((i : Int) + (M : Int)).toNat = i + M := by omega
  have t1 : ∀ z, (delAt rows i ++ [z]).take (i + M) = delAt rows i := fun z => List.take_left' hdl
  refine gcallc mixed Tryz.func174 ac_slices_Delete_api_Score ?_
  repeat' (first | (with_reducible first | refine Cn (fun h => ?_) fun h => ?_ | refine And.intro ?_ ?_ | refine wR ?_ | exact wr _ _ | refine wa ?_ | apply awp_join) | (with_reducible refine CallZ.z ?_) | simp -dsimp [go_sem, q0, hM, m2, m3, w1, w2, t1, hdl, List.length_append, hrl, List.replicate_one])
  all_goals first | omega | assumption
theorem delete_string (rows : List (List V)) (i : Nat) (hi : i < rows.length) (hl : rows.length ≤ 1000000) :
    DetCall Tryz.prog G 173 0 [some (.arr 9 1 rows)] [.one (.ar 0), iV i, iV ((i : Int) + 1)] (.one (.ar 0)) [some (.arr 9 1 (delAt rows i))] := by
  refine DetCall.arj (by decide) fun c hc1 hc2 hul => ?_
  have hc3 : c ≤ 9223372036854775807 := hc2
  have q0 : ((i : Int) == (i : Int) + 1) = false := by simp; omega
  obtain ⟨M, hM⟩ : ∃ M, rows.length - (i + 1) = M := ⟨_, rfl⟩
  have m1 : i + M = rows.length - 1 := by omega
  have w1 := wr_del hi hM.symm
  rw [← m1] at w1
  have hdl := del_len hi
  rw [← m1] at hdl
  have hrl : (rows.drop (i + M)).length = 1 := by rw [List.length_drop]; omega
  have m2 : rows.length - (i + M) = 1 := by omega
  have w2 : ∀ z, wrRows (delAt rows i ++ rows.drop (i + M)) [z] (i + M) = delAt rows i ++ [z] := fun z => by rw [← hdl]; exact wr_end (by rw [hdl, hrl]; rfl)
  have m3 : ((i : Int) + (M : Int)).toNat = i + M := by omega
  have t1 : ∀ z, (delAt rows i ++ [z]).take (i + M) = delAt rows i := fun z => List.take_left' hdl
  refine gcallc mixed Tryz.func173 ac_slices_Delete_string ?_
  repeat' (first | (with_reducible first | refine Cn (fun h => ?_) fun h => ?_ | refine And.intro ?_ ?_ | refine wR ?_ | exact wr _ _ | refine wa ?_ | apply awp_join) | (with_reducible refine CallZ.z ?_) | simp -dsimp [go_sem, q0, hM, m2, m3, w1, w2, t1, hdl, List.length_append, hrl, List.replicate_one])
  all_goals first | omega | assumption
theorem delete_api_Entry (rows : List (List V)) (i : Nat) (hi : i < rows.length) (hl : rows.length ≤ 1000000) :
    DetCall Tryz.prog G 149 0 [some (.arr 119 8 rows)] [.one (.ar 0), iV i, iV ((i : Int) + 1)] (.one (.ar 0)) [some (.arr 119 8 (delAt rows i))] := by
  refine DetCall.arj (by decide) fun c hc1 hc2 hul => ?_
  have hc3 : c ≤ 9223372036854775807 := hc2
  have q0 : ((i : Int) == (i : Int) + 1) = false := by simp; omega
  obtain ⟨M, hM⟩ : ∃ M, rows.length - (i + 1) = M := ⟨_, rfl⟩
  have m1 : i + M = rows.length - 1 := by omega
  have w1 := wr_del hi hM.symm
  rw [← m1] at w1
  have hdl := del_len hi
  rw [← m1] at hdl
  have hrl : (rows.drop (i + M)).length = 1 := by rw [List.length_drop]; omega
  have m2 : rows.length - (i + M) = 1 := by omega
  have w2 : ∀ z, wrRows (delAt rows i ++ rows.drop (i + M)) [z] (i + M) = delAt rows i ++ [z] := fun z => by rw [← hdl]; exact wr_end (by rw [hdl, hrl]; rfl)
  have m3 : ((i : Int) + (M : Int)).toNat = i + M := by omega
  have t1 : ∀ z, (delAt rows i ++ [z]).take (i + M) = delAt rows i := fun z => List.take_left' hdl
  refine gcallc mixed Tryz.func149 ac_slices_Delete_api_Entry ?_
  repeat' (first | (with_reducible first | refine Cn (fun h => ?_) fun h => ?_ | refine And.intro ?_ ?_ | refine wR ?_ | exact wr _ _ | refine wa ?_ | apply awp_join) | (with_reducible refine CallZ.z ?_) | simp -dsimp [go_sem, q0, hM, m2, m3, w1, w2, t1, hdl, List.length_append, hrl, List.replicate_one])
  all_goals first | omega | assumption
theorem delete_api_Client (rows : List (List V)) (i : Nat) (hi : i < rows.length) (hl : rows.length ≤ 1000000) :
    DetCall Tryz.prog G 107 0 [some (.arr 123 7 rows)] [.one (.ar 0), iV i, iV ((i : Int) + 1)] (.one (.ar 0)) [some (.arr 123 7 (delAt rows i))] := by
  refine DetCall.arj (by decide) fun c hc1 hc2 hul => ?_
  have hc3 : c ≤ 9223372036854775807 := hc2
  have q0 : ((i : Int) == (i : Int) + 1) = false := by simp; omega
  obtain ⟨M, hM⟩ : ∃ M, rows.length - (i + 1) = M := ⟨_, rfl⟩
  have m1 : i + M = rows.length - 1 := by omega
  have w1 := wr_del hi hM.symm
  rw [← m1] at w1
  have hdl := del_len hi
  rw [← m1] at hdl
  have hrl : (rows.drop (i + M)).length = 1 := by rw [List.length_drop]; omega
  have m2 : rows.length - (i + M) = 1 := by omega
  have w2 : ∀ z, wrRows (delAt rows i ++ rows.drop (i + M)) [z] (i + M) = delAt rows i ++ [z] := fun z => by rw [← hdl]; exact wr_end (by rw [hdl, hrl]; rfl)
  have m3 : ((i : Int) + (M : Int)).toNat = i + M := by omega
  have t1 : ∀ z, (delAt rows i ++ [z]).take (i + M) = delAt rows i := fun z => List.take_left' hdl
  refine gcallc mixed Tryz.func107 ac_slices_Delete_api_Client ?_
  repeat' (first | (with_reducible first | refine Cn (fun h => ?_) fun h => ?_ | refine And.intro ?_ ?_ | refine wR ?_ | exact wr _ _ | refine wa ?_ | apply awp_join) | (with_reducible refine CallZ.z ?_) | simp -dsimp [go_sem, q0, hM, m2, m3, w1, w2, t1, hdl, List.length_append, hrl, List.replicate_one])
  all_goals first | omega | assumption
end Go.Proofs.YtpdcfljbabpakaaGreatDoor
set_option linter.unusedVariables false
set_option linter.unusedSimpArgs false
set_option maxRecDepth 100000
set_option maxHeartbeats 8000000
namespace Go.Proofs.YtpdcfljbabpakaaGreatDoor
open Go Go.RowKit Go.Proofs.AE
variable {G : Nat → AV}
structure Cmd where
  kind : Int
  key : ByteArray
  field : ByteArray
  text : ByteArray
  n : Int
def Cmd.c (c : Cmd) : List C := [iC c.kind, sC c.key, sC c.field, sC c.text, iC c.n]
structure Rep where
  code : Int
  text : ByteArray
  n : Int
  list : List ByteArray
def Rep.c (r : Rep) : List C := [iC r.code, sC r.text, iC r.n, .v (.sl (strRows r.list))]
def toldR (n : Int) : Rep := ⟨0, ⟨#[]⟩, n, []⟩
def failR (e : Int) : Rep := ⟨e, ⟨#[]⟩, 0, []⟩
def textR (t : ByteArray) : Rep := ⟨0, t, 0, []⟩
def flagN (b : Bool) : Int := if b then 1 else 0
theorem told_c (n : Int) : PCall Tryz.prog G 159 [iV n] (.agg (toldR n).c) := by
  refine pcallc mixed Tryz.func159 ac_value_told ?_
  unfold toldR Rep.c
  repeat' (first | (with_reducible first | refine Cn (fun h => ?_) fun h => ?_ | refine And.intro ?_ ?_ | refine wR ?_ | exact wr _ _ | refine wa ?_ | apply awp_join) | (with_reducible refine CallZ.z ?_) | simp -dsimp [go_sem])
theorem failed_c (n : Int) : PCall Tryz.prog G 153 [iV n] (.agg (failR n).c) := by
  refine pcallc mixed Tryz.func153 ac_value_failed ?_
  unfold failR Rep.c
  repeat' (first | (with_reducible first | refine Cn (fun h => ?_) fun h => ?_ | refine And.intro ?_ ?_ | refine wR ?_ | exact wr _ _ | refine wa ?_ | apply awp_join) | (with_reducible refine CallZ.z ?_) | simp -dsimp [go_sem])
theorem flag_c (b : Bool) : PCall Tryz.prog G 170 [bV b] (iV (flagN b)) := by
  cases b
  · refine pcallc mixed Tryz.func170 ac_value_flag ?_
    unfold flagN
    repeat' (first | (with_reducible first | refine Cn (fun h => ?_) fun h => ?_ | refine And.intro ?_ ?_ | refine wR ?_ | exact wr _ _ | refine wa ?_ | apply awp_join) | (with_reducible refine CallZ.z ?_) | simp -dsimp [go_sem])
  · refine pcallc mixed Tryz.func170 ac_value_flag ?_
    unfold flagN
    repeat' (first | (with_reducible first | refine Cn (fun h => ?_) fun h => ?_ | refine And.intro ?_ ?_ | refine wR ?_ | exact wr _ _ | refine wa ?_ | apply awp_join) | (with_reducible refine CallZ.z ?_) | simp -dsimp [go_sem])
def plc {α : Type} (lt : α → Bool) (l : List α) : Nat := (l.takeWhile lt).length
theorem plc_le {α : Type} (lt : α → Bool) (l : List α) : plc lt l ≤ l.length := (List.takeWhile_prefix lt).length_le
theorem plc_lt {α : Type} (lt : α → Bool) : ∀ (l : List α) (j : Nat) (a : α), l[j]? = some a → j < plc lt l → lt a = true
  | [], j, a, h, _ => by simp at h
  | x :: l, j, a, h, hj => by
    unfold plc at hj
    rw [List.takeWhile_cons] at hj
    cases hx : lt x with
    | false => rw [hx] at hj; simp at hj
    | true =>
      rw [hx] at hj
      cases j with
      | zero => simp at h; subst h; exact hx
      | succ j => exact plc_lt lt l j a (by simpa using h) (by simpa [plc] using hj)
theorem rising_tail {α : Type} {cmp : α → α → Int} {x : α} {l : List α} (h : rising cmp (x :: l) = true) : rising cmp l = true := by
  cases l with
  | nil => rfl
  | cons y l => simp only [rising, Bool.and_eq_true] at h; exact h.2
theorem rising_head {α : Type} {cmp : α → α → Int} (tr : ∀ a b c, cmp a b < 0 → cmp b c < 0 → cmp a c < 0) : ∀ {l : List α} {x : α}, rising cmp (x :: l) = true → ∀ y ∈ l, cmp x y < 0
  | [], _, _, y, hy => by simp at hy
  | z :: l, x, h, y, hy => by
    have h' := h
    simp only [rising, Bool.and_eq_true, decide_eq_true_eq] at h'
    rcases List.mem_cons.1 hy with rfl | hy
    · exact h'.1
    · exact tr _ _ _ h'.1 (rising_head tr h'.2 y hy)
theorem plc_ge {α : Type} {cmp : α → α → Int} (lt : α → Bool) (tr : ∀ a b c, cmp a b < 0 → cmp b c < 0 → cmp a c < 0) (hlt : ∀ a b, cmp a b < 0 → lt b = true → lt a = true) : ∀ (l : List α), rising cmp l = true → ∀ (j : Nat) (a : α), l[j]? = some a → plc lt l ≤ j → lt a = false
  | [], _, j, a, h, _ => by simp at h
  | x :: l, hr, j, a, h, hj => by
    unfold plc at hj
    rw [List.takeWhile_cons] at hj
    cases hx : lt x with
    | true =>
      rw [hx] at hj
      cases j with
      | zero => simp at hj
      | succ j => exact plc_ge lt tr hlt l (rising_tail hr) j a (by simpa using h) (by simpa [plc] using hj)
    | false =>
      cases j with
      | zero => simp at h; subst h; exact hx
      | succ j =>
        have ha : a ∈ l := List.mem_of_getElem? (by simpa using h)
        cases hA : lt a with
        | false => rfl
        | true => rw [hlt x a (rising_head tr hr a ha) hA] at hx; cases hx
def hashAt (ps : List Pr) (f : ByteArray) : Nat := plc (fun p => decide (cmpB p.1 f < 0)) ps
def hashIn (ps : List Pr) (f : ByteArray) : Bool := at_api_Pair bF ps (f, ⟨#[]⟩) (hashAt ps f)
def hashV (ps : List Pr) (c : Cmd) : List Pr × Rep :=
  let i := hashAt ps c.field
  let there := hashIn ps c.field
  if c.kind = 4 then
    if there then (ps.set i ((ps[i]?.getD (c.field, c.text)).1, c.text), toldR 0)
    else if ps.length = 20 then (ps, failR 6)
    else (insAt ps i (c.field, c.text), toldR 1)
  else if c.kind = 5 then
    if there then (ps, textR (ps[i]?.getD (c.field, c.text)).2) else (ps, failR 5)
  else if there then (delAt ps i, toldR 1) else (ps, toldR 0)
theorem ul_p (l : List Pr) : UL 2 (pR l) := by
  intro r hr
  obtain ⟨y, _, rfl⟩ := List.mem_map.1 hr
  rfl
theorem ul_i (l : List ByteArray) : UL 1 (strRows l) := by
  intro r hr
  obtain ⟨y, _, rfl⟩ := List.mem_map.1 hr
  rfl
theorem map_ins {α β : Type} (f : α → β) (l : List α) (i : Nat) (x : α) : insAt (l.map f) i (f x) = (insAt l i x).map f := by simp [insAt]
theorem map_del {α β : Type} (f : α → β) (l : List α) (i : Nat) : delAt (l.map f) i = (delAt l i).map f := by simp [delAt]
abbrev ownHp (k : Int) (t : ByteArray) (n : Int) (p i s : List (List V)) : Hp := [some (.box 117 [iC k, sC t, iC n, .ar 1, .ar 2, .ar 3]), some (.arr 165 2 p), some (.arr 9 1 i), some (.arr 167 2 s)]
theorem hashFind_c (ps : List Pr) (f : ByteArray) (hl : ps.length ≤ 1000) (h1 : ∀ (j : Nat) a, ps[j]? = some a → hashAt ps f ≤ j → 0 ≤ cmpB a.1 f) :
    PCall Tryz.prog G 167 [.one (.v (.sl (pR ps))), .agg [sC f, sC ⟨#[]⟩], .fn 125 [] []] (.tup [iV (hashAt ps f), bV (hashIn ps f)]) :=
  bsearch_api_Pair 125 bF ps (f, ⟨#[]⟩) (hashAt ps f) (by omega) en125 byField_c (plc_le _ _) (fun j a h1 h2 => by simpa using plc_lt _ ps j a h1 h2) h1
theorem hash4_c (k n : Int) (t : ByteArray) (ps : List Pr) (its scs : List (List V)) (c : Cmd) (hk : c.kind = 4) (hl : ps.length ≤ 1000) (h1 : ∀ (j : Nat) a, ps[j]? = some a → hashAt ps c.field ≤ j → 0 ≤ cmpB a.1 c.field) :
    DetCall Tryz.prog G 161 1 (ownHp k t n (pR ps) its scs) [.one (.ptr 0 0), .agg c.c] (.agg (hashV ps c).2.c) (ownHp k t n (pR (hashV ps c).1) its scs) := by
  have hf := hashFind_c (G := G) ps c.field hl h1
  obtain ⟨kk, key, f, tx, cn⟩ := c
  simp only at hk h1 hf
  subst hk
  have hle := plc_le (fun p : Pr => decide (cmpB p.1 f < 0)) ps
  change hashAt ps f ≤ ps.length at hle
  unfold hashV
  simp only
  cases hin : hashIn ps f with
  | true =>
    have hat : ∃ a, ps[hashAt ps f]? = some a := by
      unfold hashIn at_api_Pair at hin
      cases h : ps[hashAt ps f]? with
      | none => rw [h] at hin; cases hin
      | some a => exact ⟨a, rfl⟩
    obtain ⟨a, ha⟩ := hat
    have hlt := lt_of_getElem? ha
    rw [hin] at hf
    generalize hashAt ps f = i at *
    have hd := delete_api_Pair (G := G) (pR ps) i (by simpa using hlt) (by simpa using (by omega : ps.length ≤ 1000000))
    rw [map_del] at hd
    have w3 : IntKind.i64.wrap ((i : Int) + 1) = (i : Int) + 1 := IntWalk.i64_in _ (by omega)
    refine gcallc mixed Tryz.func161 ac_value_hash ?_
    repeat' (first | (with_reducible first | refine Cn (fun h => ?_) fun h => ?_ | refine And.intro ?_ ?_ | refine wR ?_ | exact wr _ _ | refine wa ?_ | apply awp_join | refine q (told_c _) ?_ | refine qd (told_c _) ?_ | refine qz (told_c _) ?_ | refine q (failed_c _) ?_ | refine qd (failed_c _) ?_ | refine qz (failed_c _) ?_ | refine q (flag_c _) ?_ | refine qd (flag_c _) ?_ | refine qz (flag_c _) ?_ | refine qg hd ?_ | refine qgd hd ?_) | (with_reducible refine PCall.db (hf) ?_ ?_ ?_) | (with_reducible refine CallZ.z ?_) | simp -dsimp [go_sem, ha, w3, Cmd.c, Rep.c, toldR, failR, textR, flagN])
    all_goals first | omega | (have h' : ps.length = 20 := by (simp at h; omega)
                               simp [h']; done) | (have h' : ¬ ps.length = 20 := by (simp at h; omega)
                                                   simp [h']; done)
  | false =>
    rw [hin] at hf
    generalize hashAt ps f = i at *
    have hd := insert_api_Pair (G := G) (pR ps) (row_api_Pair (f, tx)) i rfl (by simpa using hle) (by simpa using (by omega : ps.length ≤ 1000000))
    rw [map_ins] at hd
    refine gcallc mixed Tryz.func161 ac_value_hash ?_
    repeat' (first | (with_reducible first | refine Cn (fun h => ?_) fun h => ?_ | refine And.intro ?_ ?_ | refine wR ?_ | exact wr _ _ | refine wa ?_ | apply awp_join | refine q (told_c _) ?_ | refine qd (told_c _) ?_ | refine qz (told_c _) ?_ | refine q (failed_c _) ?_ | refine qd (failed_c _) ?_ | refine qz (failed_c _) ?_ | refine q (flag_c _) ?_ | refine qd (flag_c _) ?_ | refine qz (flag_c _) ?_ | refine qg hd ?_ | refine qgd hd ?_) | (with_reducible refine PCall.db (hf) ?_ ?_ ?_) | (with_reducible refine CallZ.z ?_) | simp -dsimp [go_sem, Cmd.c, Rep.c, toldR, failR, textR, flagN])
    all_goals first | omega | (have h' : ps.length = 20 := by (simp at h; omega)
                               simp [h']; done) | (have h' : ¬ ps.length = 20 := by (simp at h; omega)
                                                   simp [h']; done)
theorem hash5_c (k n : Int) (t : ByteArray) (ps : List Pr) (its scs : List (List V)) (c : Cmd) (hk : c.kind = 5) (hl : ps.length ≤ 1000) (h1 : ∀ (j : Nat) a, ps[j]? = some a → hashAt ps c.field ≤ j → 0 ≤ cmpB a.1 c.field) :
    DetCall Tryz.prog G 161 1 (ownHp k t n (pR ps) its scs) [.one (.ptr 0 0), .agg c.c] (.agg (hashV ps c).2.c) (ownHp k t n (pR (hashV ps c).1) its scs) := by
  have hf := hashFind_c (G := G) ps c.field hl h1
  obtain ⟨kk, key, f, tx, cn⟩ := c
  simp only at hk h1 hf
  subst hk
  have hle := plc_le (fun p : Pr => decide (cmpB p.1 f < 0)) ps
  change hashAt ps f ≤ ps.length at hle
  unfold hashV
  simp only
  cases hin : hashIn ps f with
  | true =>
    have hat : ∃ a, ps[hashAt ps f]? = some a := by
      unfold hashIn at_api_Pair at hin
      cases h : ps[hashAt ps f]? with
      | none => rw [h] at hin; cases hin
      | some a => exact ⟨a, rfl⟩
    obtain ⟨a, ha⟩ := hat
    have hlt := lt_of_getElem? ha
    rw [hin] at hf
    generalize hashAt ps f = i at *
    have hd := delete_api_Pair (G := G) (pR ps) i (by simpa using hlt) (by simpa using (by omega : ps.length ≤ 1000000))
    rw [map_del] at hd
    have w3 : IntKind.i64.wrap ((i : Int) + 1) = (i : Int) + 1 := IntWalk.i64_in _ (by omega)
    refine gcallc mixed Tryz.func161 ac_value_hash ?_
    repeat' (first | (with_reducible first | refine Cn (fun h => ?_) fun h => ?_ | refine And.intro ?_ ?_ | refine wR ?_ | exact wr _ _ | refine wa ?_ | apply awp_join | refine q (told_c _) ?_ | refine qd (told_c _) ?_ | refine qz (told_c _) ?_ | refine q (failed_c _) ?_ | refine qd (failed_c _) ?_ | refine qz (failed_c _) ?_ | refine q (flag_c _) ?_ | refine qd (flag_c _) ?_ | refine qz (flag_c _) ?_ | refine qg hd ?_ | refine qgd hd ?_) | (with_reducible refine PCall.db (hf) ?_ ?_ ?_) | (with_reducible refine CallZ.z ?_) | simp -dsimp [go_sem, ha, w3, Cmd.c, Rep.c, toldR, failR, textR, flagN])
    all_goals first | omega | (have h' : ps.length = 20 := by (simp at h; omega)
                               simp [h']; done) | (have h' : ¬ ps.length = 20 := by (simp at h; omega)
                                                   simp [h']; done)
  | false =>
    rw [hin] at hf
    generalize hashAt ps f = i at *
    have hd := insert_api_Pair (G := G) (pR ps) (row_api_Pair (f, tx)) i rfl (by simpa using hle) (by simpa using (by omega : ps.length ≤ 1000000))
    rw [map_ins] at hd
    refine gcallc mixed Tryz.func161 ac_value_hash ?_
    repeat' (first | (with_reducible first | refine Cn (fun h => ?_) fun h => ?_ | refine And.intro ?_ ?_ | refine wR ?_ | exact wr _ _ | refine wa ?_ | apply awp_join | refine q (told_c _) ?_ | refine qd (told_c _) ?_ | refine qz (told_c _) ?_ | refine q (failed_c _) ?_ | refine qd (failed_c _) ?_ | refine qz (failed_c _) ?_ | refine q (flag_c _) ?_ | refine qd (flag_c _) ?_ | refine qz (flag_c _) ?_ | refine qg hd ?_ | refine qgd hd ?_) | (with_reducible refine PCall.db (hf) ?_ ?_ ?_) | (with_reducible refine CallZ.z ?_) | simp -dsimp [go_sem, Cmd.c, Rep.c, toldR, failR, textR, flagN])
    all_goals first | omega | (have h' : ps.length = 20 := by (simp at h; omega)
                               simp [h']; done) | (have h' : ¬ ps.length = 20 := by (simp at h; omega)
                                                   simp [h']; done)
theorem hash6_c (k n : Int) (t : ByteArray) (ps : List Pr) (its scs : List (List V)) (c : Cmd) (hk : c.kind = 6) (hl : ps.length ≤ 1000) (h1 : ∀ (j : Nat) a, ps[j]? = some a → hashAt ps c.field ≤ j → 0 ≤ cmpB a.1 c.field) :
    DetCall Tryz.prog G 161 1 (ownHp k t n (pR ps) its scs) [.one (.ptr 0 0), .agg c.c] (.agg (hashV ps c).2.c) (ownHp k t n (pR (hashV ps c).1) its scs) := by
  have hf := hashFind_c (G := G) ps c.field hl h1
  obtain ⟨kk, key, f, tx, cn⟩ := c
  simp only at hk h1 hf
  subst hk
  have hle := plc_le (fun p : Pr => decide (cmpB p.1 f < 0)) ps
  change hashAt ps f ≤ ps.length at hle
  unfold hashV
  simp only
  cases hin : hashIn ps f with
  | true =>
    have hat : ∃ a, ps[hashAt ps f]? = some a := by
      unfold hashIn at_api_Pair at hin
      cases h : ps[hashAt ps f]? with
      | none => rw [h] at hin; cases hin
      | some a => exact ⟨a, rfl⟩
    obtain ⟨a, ha⟩ := hat
    have hlt := lt_of_getElem? ha
    rw [hin] at hf
    generalize hashAt ps f = i at *
    have hd := delete_api_Pair (G := G) (pR ps) i (by simpa using hlt) (by simpa using (by omega : ps.length ≤ 1000000))
    rw [map_del] at hd
    have w3 : IntKind.i64.wrap ((i : Int) + 1) = (i : Int) + 1 := IntWalk.i64_in _ (by omega)
    refine gcallc mixed Tryz.func161 ac_value_hash ?_
    repeat' (first | (with_reducible first | refine Cn (fun h => ?_) fun h => ?_ | refine And.intro ?_ ?_ | refine wR ?_ | exact wr _ _ | refine wa ?_ | apply awp_join | refine q (told_c _) ?_ | refine qd (told_c _) ?_ | refine qz (told_c _) ?_ | refine q (failed_c _) ?_ | refine qd (failed_c _) ?_ | refine qz (failed_c _) ?_ | refine q (flag_c _) ?_ | refine qd (flag_c _) ?_ | refine qz (flag_c _) ?_ | refine qg hd ?_ | refine qgd hd ?_) | (with_reducible refine PCall.db (hf) ?_ ?_ ?_) | (with_reducible refine CallZ.z ?_) | simp -dsimp [go_sem, ha, w3, Cmd.c, Rep.c, toldR, failR, textR, flagN])
    all_goals first | omega | (have h' : ps.length = 20 := by (simp at h; omega)
                               simp [h']; done) | (have h' : ¬ ps.length = 20 := by (simp at h; omega)
                                                   simp [h']; done)
  | false =>
    rw [hin] at hf
    generalize hashAt ps f = i at *
    have hd := insert_api_Pair (G := G) (pR ps) (row_api_Pair (f, tx)) i rfl (by simpa using hle) (by simpa using (by omega : ps.length ≤ 1000000))
    rw [map_ins] at hd
    refine gcallc mixed Tryz.func161 ac_value_hash ?_
    repeat' (first | (with_reducible first | refine Cn (fun h => ?_) fun h => ?_ | refine And.intro ?_ ?_ | refine wR ?_ | exact wr _ _ | refine wa ?_ | apply awp_join | refine q (told_c _) ?_ | refine qd (told_c _) ?_ | refine qz (told_c _) ?_ | refine q (failed_c _) ?_ | refine qd (failed_c _) ?_ | refine qz (failed_c _) ?_ | refine q (flag_c _) ?_ | refine qd (flag_c _) ?_ | refine qz (flag_c _) ?_ | refine qg hd ?_ | refine qgd hd ?_) | (with_reducible refine PCall.db (hf) ?_ ?_ ?_) | (with_reducible refine CallZ.z ?_) | simp -dsimp [go_sem, Cmd.c, Rep.c, toldR, failR, textR, flagN])
    all_goals first | omega | (have h' : ps.length = 20 := by (simp at h; omega)
                               simp [h']; done) | (have h' : ¬ ps.length = 20 := by (simp at h; omega)
                                                   simp [h']; done)
end Go.Proofs.YtpdcfljbabpakaaGreatDoor
set_option linter.unusedVariables false
set_option linter.unusedSimpArgs false
set_option maxRecDepth 100000
set_option maxHeartbeats 8000000
namespace Go.Proofs.YtpdcfljbabpakaaGreatDoor
open Go Go.RowKit Go.Proofs.AE
variable {G : Nat → AV}
def listV (l : List ByteArray) (c : Cmd) : List ByteArray × Rep :=
  if c.kind ≤ 8 ∧ l.length = 20 then (l, failR 6)
  else if c.kind = 7 then (l ++ [c.text], toldR (l.length + 1))
  else if c.kind = 8 then (c.text :: l, toldR (l.length + 1))
  else if c.kind = 9 then (l.take (l.length - 1), textR (l[l.length - 1]?.getD ⟨#[]⟩))
  else (l.drop 1, textR (l[0]?.getD ⟨#[]⟩))
theorem list7_c (k n : Int) (t : ByteArray) (l : List ByteArray) (ps scs : List (List V)) (c : Cmd) (hk : c.kind = 7) (hl : l.length ≤ 1000) :
    DetCall Tryz.prog G 162 1 (ownHp k t n ps (strRows l) scs) [.one (.ptr 0 0), .agg c.c] (.agg (listV l c).2.c) (ownHp k t n ps (strRows (listV l c).1) scs) := by
  obtain ⟨kk, key, f, tx, cn⟩ := c
  simp only at hk
  subst hk
  have hul := ul_i l
  have hul1 := ul_i [tx]
  have hd := insert_string (G := G) (strRows l) (row_string tx) 0 rfl (Nat.zero_le _) (by simpa using (by omega : l.length ≤ 1000000))
  have e0 : insAt (strRows l) 0 (row_string tx) = strRows (tx :: l) := by simp [insAt]
  rw [e0] at hd
  have w3 : IntKind.i64.wrap ((l.length : Int) + 1) = (l.length : Int) + 1 := IntWalk.i64_in _ (by omega)
  unfold listV
  simp only
  refine gcallc mixed Tryz.func162 ac_value_list ?_
  repeat' (first | (with_reducible first | refine Cn (fun h => ?_) fun h => ?_ | refine And.intro ?_ ?_ | refine wR ?_ | exact wr _ _ | refine wa ?_ | apply awp_join | refine q (told_c _) ?_ | refine qd (told_c _) ?_ | refine qz (told_c _) ?_ | refine q (failed_c _) ?_ | refine qd (failed_c _) ?_ | refine qz (failed_c _) ?_ | refine qg hd ?_ | refine qgd hd ?_) | (with_reducible refine CallZ.z ?_) | simp -dsimp [go_sem, w3, Cmd.c, Rep.c, toldR, failR, textR])
  all_goals first | omega | assumption | (have h' : l.length = 20 := by (simp at h; omega)
                                          simp [h']; done) | (have h' : ¬ l.length = 20 := by (simp at h; omega)
                                                              simp [h']; done)
theorem list8_c (k n : Int) (t : ByteArray) (l : List ByteArray) (ps scs : List (List V)) (c : Cmd) (hk : c.kind = 8) (hl : l.length ≤ 1000) :
    DetCall Tryz.prog G 162 1 (ownHp k t n ps (strRows l) scs) [.one (.ptr 0 0), .agg c.c] (.agg (listV l c).2.c) (ownHp k t n ps (strRows (listV l c).1) scs) := by
  obtain ⟨kk, key, f, tx, cn⟩ := c
  simp only at hk
  subst hk
  have hul := ul_i l
  have hul1 := ul_i [tx]
  have hd := insert_string (G := G) (strRows l) (row_string tx) 0 rfl (Nat.zero_le _) (by simpa using (by omega : l.length ≤ 1000000))
  have e0 : insAt (strRows l) 0 (row_string tx) = strRows (tx :: l) := by simp [insAt]
  rw [e0] at hd
  have w3 : IntKind.i64.wrap ((l.length : Int) + 1) = (l.length : Int) + 1 := IntWalk.i64_in _ (by omega)
  unfold listV
  simp only
  refine gcallc mixed Tryz.func162 ac_value_list ?_
  repeat' (first | (with_reducible first | refine Cn (fun h => ?_) fun h => ?_ | refine And.intro ?_ ?_ | refine wR ?_ | exact wr _ _ | refine wa ?_ | apply awp_join | refine q (told_c _) ?_ | refine qd (told_c _) ?_ | refine qz (told_c _) ?_ | refine q (failed_c _) ?_ | refine qd (failed_c _) ?_ | refine qz (failed_c _) ?_ | refine qg hd ?_ | refine qgd hd ?_) | (with_reducible refine CallZ.z ?_) | simp -dsimp [go_sem, w3, Cmd.c, Rep.c, toldR, failR, textR])
  all_goals first | omega | assumption | (have h' : l.length = 20 := by (simp at h; omega)
                                          simp [h']; done) | (have h' : ¬ l.length = 20 := by (simp at h; omega)
                                                              simp [h']; done)
abbrev plainHp (k : Int) (t : ByteArray) (n : Int) (p i s : List (List V)) : Hp := [some (.box 117 [iC k, sC t, iC n, .v (.sl p), .v (.sl i), .v (.sl s)])]
theorem list9_c (k n : Int) (t : ByteArray) (l : List ByteArray) (ps scs : List (List V)) (c : Cmd) (hk : c.kind = 9) (hl : l.length ≤ 1000) (h0 : 0 < l.length) :
    DetCall Tryz.prog G 162 1 (plainHp k t n ps (strRows l) scs) [.one (.ptr 0 0), .agg c.c] (.agg (listV l c).2.c) (plainHp k t n ps (strRows (listV l c).1) scs) := by
  obtain ⟨kk, key, f, tx, cn⟩ := c
  simp only at hk
  subst hk
  have hul := ul_i l
  obtain ⟨a, ha⟩ : ∃ a, l[0]? = some a := ⟨_, List.getElem?_eq_getElem h0⟩
  obtain ⟨b, hb⟩ : ∃ b, l[l.length - 1]? = some b := ⟨_, List.getElem?_eq_getElem (by omega)⟩
  have w3 : IntKind.i64.wrap ((l.length : Int) - 1) = (l.length : Int) - 1 := IntWalk.i64_in _ (by omega)
  have w4 : ((l.length : Int) - 1).toNat = l.length - 1 := by omega
  unfold listV
  simp only
  refine gcallc mixed Tryz.func162 ac_value_list ?_
  repeat' (first | (with_reducible first | refine Cn (fun h => ?_) fun h => ?_ | refine And.intro ?_ ?_ | refine wR ?_ | exact wr _ _ | refine wa ?_ | apply awp_join | refine q (told_c _) ?_ | refine qd (told_c _) ?_ | refine qz (told_c _) ?_ | refine q (failed_c _) ?_ | refine qd (failed_c _) ?_ | refine qz (failed_c _) ?_) | (with_reducible refine CallZ.z ?_) | simp -dsimp [go_sem, w3, w4, ha, hb, ← List.map_take, ← List.map_drop, Cmd.c, Rep.c, toldR, failR, textR])
  all_goals first | omega | assumption
theorem list10_c (k n : Int) (t : ByteArray) (l : List ByteArray) (ps scs : List (List V)) (c : Cmd) (hk : c.kind = 10) (hl : l.length ≤ 1000) (h0 : 0 < l.length) :
    DetCall Tryz.prog G 162 1 (plainHp k t n ps (strRows l) scs) [.one (.ptr 0 0), .agg c.c] (.agg (listV l c).2.c) (plainHp k t n ps (strRows (listV l c).1) scs) := by
  obtain ⟨kk, key, f, tx, cn⟩ := c
  simp only at hk
  subst hk
  have hul := ul_i l
  obtain ⟨a, ha⟩ : ∃ a, l[0]? = some a := ⟨_, List.getElem?_eq_getElem h0⟩
  obtain ⟨b, hb⟩ : ∃ b, l[l.length - 1]? = some b := ⟨_, List.getElem?_eq_getElem (by omega)⟩
  have w3 : IntKind.i64.wrap ((l.length : Int) - 1) = (l.length : Int) - 1 := IntWalk.i64_in _ (by omega)
  have w4 : ((l.length : Int) - 1).toNat = l.length - 1 := by omega
  unfold listV
  simp only
  refine gcallc mixed Tryz.func162 ac_value_list ?_
  repeat' (first | (with_reducible first | refine Cn (fun h => ?_) fun h => ?_ | refine And.intro ?_ ?_ | refine wR ?_ | exact wr _ _ | refine wa ?_ | apply awp_join | refine q (told_c _) ?_ | refine qd (told_c _) ?_ | refine qz (told_c _) ?_ | refine q (failed_c _) ?_ | refine qd (failed_c _) ?_ | refine qz (failed_c _) ?_) | (with_reducible refine CallZ.z ?_) | simp -dsimp [go_sem, w3, w4, ha, hb, ← List.map_take, ← List.map_drop, Cmd.c, Rep.c, toldR, failR, textR])
  all_goals first | omega | assumption
end Go.Proofs.YtpdcfljbabpakaaGreatDoor
set_option linter.unusedVariables false
set_option linter.unusedSimpArgs false
set_option maxRecDepth 100000
set_option maxHeartbeats 8000000
namespace Go.Proofs.YtpdcfljbabpakaaGreatDoor
open Go Go.RowKit Go.Proofs.AE
variable {G : Nat → AV}
def setAt (l : List ByteArray) (t : ByteArray) : Nat := plc (fun a => lessB a t) l
def setIn (l : List ByteArray) (t : ByteArray) : Bool := at_string l t (setAt l t)
def setV (l : List ByteArray) (c : Cmd) : List ByteArray × Rep :=
  let i := setAt l c.text
  let there := setIn l c.text
  if c.kind = 11 then
    if there then (l, toldR 0) else if l.length = 20 then (l, failR 6) else (insAt l i c.text, toldR 1)
  else if c.kind = 12 then (if there then (delAt l i, toldR 1) else (l, toldR 0))
  else (l, toldR (flagN there))
theorem set11_c (k n : Int) (t : ByteArray) (l : List ByteArray) (ps scs : List (List V)) (c : Cmd) (hk : c.kind = 11) (hl : l.length ≤ 1000) (h1 : ∀ (j : Nat) a, l[j]? = some a → setAt l c.text ≤ j → lessB a c.text = false) :
    DetCall Tryz.prog G 163 1 (ownHp k t n ps (strRows l) scs) [.one (.ptr 0 0), .agg c.c] (.agg (setV l c).2.c) (ownHp k t n ps (strRows (setV l c).1) scs) := by
  have hf := bsearch_string (G := G) l c.text (setAt l c.text) (by omega) (plc_le _ _) (fun j a h1 h2 => plc_lt _ l j a h1 h2) h1
  obtain ⟨kk, key, f, tx, cn⟩ := c
  simp only at hk h1 hf
  subst hk
  have hle := plc_le (fun a => lessB a tx) l
  change setAt l tx ≤ l.length at hle
  change PCall Tryz.prog G _ _ (.tup [iV (setAt l tx), bV (setIn l tx)]) at hf
  unfold setV
  simp only
  cases hin : setIn l tx with
  | true =>
    have hat : ∃ a, l[setAt l tx]? = some a := by
      unfold setIn at_string at hin
      cases h : l[setAt l tx]? with
      | none => rw [h] at hin; cases hin
      | some a => exact ⟨a, rfl⟩
    obtain ⟨a, ha⟩ := hat
    have hlt := lt_of_getElem? ha
    rw [hin] at hf
    generalize setAt l tx = i at *
    have hd := delete_string (G := G) (strRows l) i (by simpa using hlt) (by simpa using (by omega : l.length ≤ 1000000))
    rw [map_del] at hd
    have w3 : IntKind.i64.wrap ((i : Int) + 1) = (i : Int) + 1 := IntWalk.i64_in _ (by omega)
    refine gcallc mixed Tryz.func163 ac_value_set ?_
    repeat' (first | (with_reducible first | refine Cn (fun h => ?_) fun h => ?_ | refine And.intro ?_ ?_ | refine wR ?_ | exact wr _ _ | refine wa ?_ | apply awp_join | refine q (told_c _) ?_ | refine qd (told_c _) ?_ | refine qz (told_c _) ?_ | refine q (failed_c _) ?_ | refine qd (failed_c _) ?_ | refine qz (failed_c _) ?_ | refine q (flag_c _) ?_ | refine qd (flag_c _) ?_ | refine qz (flag_c _) ?_ | refine qg hd ?_ | refine qgd hd ?_) | (with_reducible refine PCall.db (hf) ?_ ?_ ?_) | (with_reducible refine CallZ.z ?_) | simp -dsimp [go_sem, ha, w3, Cmd.c, Rep.c, toldR, failR, textR, flagN])
    all_goals first | omega
  | false =>
    rw [hin] at hf
    generalize setAt l tx = i at *
    have hd := insert_string (G := G) (strRows l) (row_string tx) i rfl (by simpa using hle) (by simpa using (by omega : l.length ≤ 1000000))
    rw [map_ins] at hd
    refine gcallc mixed Tryz.func163 ac_value_set ?_
    repeat' (first | (with_reducible first | refine Cn (fun h => ?_) fun h => ?_ | refine And.intro ?_ ?_ | refine wR ?_ | exact wr _ _ | refine wa ?_ | apply awp_join | refine q (told_c _) ?_ | refine qd (told_c _) ?_ | refine qz (told_c _) ?_ | refine q (failed_c _) ?_ | refine qd (failed_c _) ?_ | refine qz (failed_c _) ?_ | refine q (flag_c _) ?_ | refine qd (flag_c _) ?_ | refine qz (flag_c _) ?_ | refine qg hd ?_ | refine qgd hd ?_) | (with_reducible refine PCall.db (hf) ?_ ?_ ?_) | (with_reducible refine CallZ.z ?_) | simp -dsimp [go_sem, Cmd.c, Rep.c, toldR, failR, textR, flagN])
    all_goals first | omega | (have h' : l.length = 20 := by (simp at h; omega)
                               simp [h']; done) | (have h' : ¬ l.length = 20 := by (simp at h; omega)
                                                   simp [h']; done)
theorem set12_c (k n : Int) (t : ByteArray) (l : List ByteArray) (ps scs : List (List V)) (c : Cmd) (hk : c.kind = 12) (hl : l.length ≤ 1000) (h1 : ∀ (j : Nat) a, l[j]? = some a → setAt l c.text ≤ j → lessB a c.text = false) :
    DetCall Tryz.prog G 163 1 (ownHp k t n ps (strRows l) scs) [.one (.ptr 0 0), .agg c.c] (.agg (setV l c).2.c) (ownHp k t n ps (strRows (setV l c).1) scs) := by
  have hf := bsearch_string (G := G) l c.text (setAt l c.text) (by omega) (plc_le _ _) (fun j a h1 h2 => plc_lt _ l j a h1 h2) h1
  obtain ⟨kk, key, f, tx, cn⟩ := c
  simp only at hk h1 hf
  subst hk
  have hle := plc_le (fun a => lessB a tx) l
  change setAt l tx ≤ l.length at hle
  change PCall Tryz.prog G _ _ (.tup [iV (setAt l tx), bV (setIn l tx)]) at hf
  unfold setV
  simp only
  cases hin : setIn l tx with
  | true =>
    have hat : ∃ a, l[setAt l tx]? = some a := by
      unfold setIn at_string at hin
      cases h : l[setAt l tx]? with
      | none => rw [h] at hin; cases hin
      | some a => exact ⟨a, rfl⟩
    obtain ⟨a, ha⟩ := hat
    have hlt := lt_of_getElem? ha
    rw [hin] at hf
    generalize setAt l tx = i at *
    have hd := delete_string (G := G) (strRows l) i (by simpa using hlt) (by simpa using (by omega : l.length ≤ 1000000))
    rw [map_del] at hd
    have w3 : IntKind.i64.wrap ((i : Int) + 1) = (i : Int) + 1 := IntWalk.i64_in _ (by omega)
    refine gcallc mixed Tryz.func163 ac_value_set ?_
    repeat' (first | (with_reducible first | refine Cn (fun h => ?_) fun h => ?_ | refine And.intro ?_ ?_ | refine wR ?_ | exact wr _ _ | refine wa ?_ | apply awp_join | refine q (told_c _) ?_ | refine qd (told_c _) ?_ | refine qz (told_c _) ?_ | refine q (failed_c _) ?_ | refine qd (failed_c _) ?_ | refine qz (failed_c _) ?_ | refine q (flag_c _) ?_ | refine qd (flag_c _) ?_ | refine qz (flag_c _) ?_ | refine qg hd ?_ | refine qgd hd ?_) | (with_reducible refine PCall.db (hf) ?_ ?_ ?_) | (with_reducible refine CallZ.z ?_) | simp -dsimp [go_sem, ha, w3, Cmd.c, Rep.c, toldR, failR, textR, flagN])
    all_goals first | omega
  | false =>
    rw [hin] at hf
    generalize setAt l tx = i at *
    have hd := insert_string (G := G) (strRows l) (row_string tx) i rfl (by simpa using hle) (by simpa using (by omega : l.length ≤ 1000000))
    rw [map_ins] at hd
    refine gcallc mixed Tryz.func163 ac_value_set ?_
    repeat' (first | (with_reducible first | refine Cn (fun h => ?_) fun h => ?_ | refine And.intro ?_ ?_ | refine wR ?_ | exact wr _ _ | refine wa ?_ | apply awp_join | refine q (told_c _) ?_ | refine qd (told_c _) ?_ | refine qz (told_c _) ?_ | refine q (failed_c _) ?_ | refine qd (failed_c _) ?_ | refine qz (failed_c _) ?_ | refine q (flag_c _) ?_ | refine qd (flag_c _) ?_ | refine qz (flag_c _) ?_ | refine qg hd ?_ | refine qgd hd ?_) | (with_reducible refine PCall.db (hf) ?_ ?_ ?_) | (with_reducible refine CallZ.z ?_) | simp -dsimp [go_sem, Cmd.c, Rep.c, toldR, failR, textR, flagN])
    all_goals first | omega | (have h' : l.length = 20 := by (simp at h; omega)
                               simp [h']; done) | (have h' : ¬ l.length = 20 := by (simp at h; omega)
                                                   simp [h']; done)
theorem set13_c (k n : Int) (t : ByteArray) (l : List ByteArray) (ps scs : List (List V)) (c : Cmd) (hk : c.kind = 13) (hl : l.length ≤ 1000) (h1 : ∀ (j : Nat) a, l[j]? = some a → setAt l c.text ≤ j → lessB a c.text = false) :
    DetCall Tryz.prog G 163 1 (ownHp k t n ps (strRows l) scs) [.one (.ptr 0 0), .agg c.c] (.agg (setV l c).2.c) (ownHp k t n ps (strRows (setV l c).1) scs) := by
  have hf := bsearch_string (G := G) l c.text (setAt l c.text) (by omega) (plc_le _ _) (fun j a h1 h2 => plc_lt _ l j a h1 h2) h1
  obtain ⟨kk, key, f, tx, cn⟩ := c
  simp only at hk h1 hf
  subst hk
  have hle := plc_le (fun a => lessB a tx) l
  change setAt l tx ≤ l.length at hle
  change PCall Tryz.prog G _ _ (.tup [iV (setAt l tx), bV (setIn l tx)]) at hf
  unfold setV
  simp only
  cases hin : setIn l tx with
  | true =>
    have hat : ∃ a, l[setAt l tx]? = some a := by
      unfold setIn at_string at hin
      cases h : l[setAt l tx]? with
      | none => rw [h] at hin; cases hin
      | some a => exact ⟨a, rfl⟩
    obtain ⟨a, ha⟩ := hat
    have hlt := lt_of_getElem? ha
    rw [hin] at hf
    generalize setAt l tx = i at *
    have hd := delete_string (G := G) (strRows l) i (by simpa using hlt) (by simpa using (by omega : l.length ≤ 1000000))
    rw [map_del] at hd
    have w3 : IntKind.i64.wrap ((i : Int) + 1) = (i : Int) + 1 := IntWalk.i64_in _ (by omega)
    refine gcallc mixed Tryz.func163 ac_value_set ?_
    repeat' (first | (with_reducible first | refine Cn (fun h => ?_) fun h => ?_ | refine And.intro ?_ ?_ | refine wR ?_ | exact wr _ _ | refine wa ?_ | apply awp_join | refine q (told_c _) ?_ | refine qd (told_c _) ?_ | refine qz (told_c _) ?_ | refine q (failed_c _) ?_ | refine qd (failed_c _) ?_ | refine qz (failed_c _) ?_ | refine q (flag_c _) ?_ | refine qd (flag_c _) ?_ | refine qz (flag_c _) ?_ | refine qg hd ?_ | refine qgd hd ?_) | (with_reducible refine PCall.db (hf) ?_ ?_ ?_) | (with_reducible refine CallZ.z ?_) | simp -dsimp [go_sem, ha, w3, Cmd.c, Rep.c, toldR, failR, textR, flagN])
    all_goals first | omega
  | false =>
    rw [hin] at hf
    generalize setAt l tx = i at *
    have hd := insert_string (G := G) (strRows l) (row_string tx) i rfl (by simpa using hle) (by simpa using (by omega : l.length ≤ 1000000))
    rw [map_ins] at hd
    refine gcallc mixed Tryz.func163 ac_value_set ?_
    repeat' (first | (with_reducible first | refine Cn (fun h => ?_) fun h => ?_ | refine And.intro ?_ ?_ | refine wR ?_ | exact wr _ _ | refine wa ?_ | apply awp_join | refine q (told_c _) ?_ | refine qd (told_c _) ?_ | refine qz (told_c _) ?_ | refine q (failed_c _) ?_ | refine qd (failed_c _) ?_ | refine qz (failed_c _) ?_ | refine q (flag_c _) ?_ | refine qd (flag_c _) ?_ | refine qz (flag_c _) ?_ | refine qg hd ?_ | refine qgd hd ?_) | (with_reducible refine PCall.db (hf) ?_ ?_ ?_) | (with_reducible refine CallZ.z ?_) | simp -dsimp [go_sem, Cmd.c, Rep.c, toldR, failR, textR, flagN])
    all_goals first | omega | (have h' : l.length = 20 := by (simp at h; omega)
                               simp [h']; done) | (have h' : ¬ l.length = 20 := by (simp at h; omega)
                                                   simp [h']; done)
theorem firstI_lt {α : Type} (p : α → Bool) : ∀ (l : List α) (i : Nat), firstI p i l = -1 ∨ ∃ j : Nat, firstI p i l = ((i + j : Nat) : Int) ∧ j < l.length
  | [], _ => .inl rfl
  | x :: l, i => by
    unfold firstI
    split
    · exact .inr ⟨0, by simp, by simp⟩
    · rcases firstI_lt p l (i + 1) with h | ⟨j, h, hj⟩
      · exact .inl h
      · exact .inr ⟨j + 1, by rw [h]; congr 1; omega, by simpa using hj⟩
theorem rankOf_cases (l : List Sc) (m : ByteArray) : rankOf l m = -1 ∨ ∃ j : Nat, rankOf l m = j ∧ j < l.length := by
  have := firstI_lt (fun s : Sc => decide (s.1 = m)) l 0
  simpa [rankOf] using this
def rankCut (l : List Sc) (m : ByteArray) : List Sc := if rankOf l m < 0 then l else delAt l (rankOf l m).toNat
def rankAt (l : List Sc) (m : ByteArray) (n : Int) : Nat := plc (fun a => decide (bS a (m, n) < 0)) l
def ranksV (l : List Sc) (c : Cmd) : List Sc × Rep :=
  let i := rankOf l c.text
  if c.kind = 16 then (l, if i < 0 then failR 5 else toldR i)
  else if c.kind = 15 then (rankCut l c.text, toldR (if i < 0 then 0 else 1))
  else if i < 0 ∧ l.length = 20 then (l, failR 6)
  else (insAt (rankCut l c.text) (rankAt (rankCut l c.text) c.text c.n) (c.text, c.n), toldR (if i < 0 then 1 else 0))
theorem ranks14_c (k n : Int) (t : ByteArray) (l : List Sc) (ps its : List (List V)) (c : Cmd) (hk : c.kind = 14) (hl : l.length ≤ 1000) (h1 : ∀ (j : Nat) a, (rankCut l c.text)[j]? = some a → rankAt (rankCut l c.text) c.text c.n ≤ j → 0 ≤ bS a (c.text, c.n)) :
    DetCall Tryz.prog G 164 1 (ownHp k t n ps its (sR l)) [.one (.ptr 0 0), .agg c.c] (.agg (ranksV l c).2.c) (ownHp k t n ps its (sR (ranksV l c).1)) := by
  have hcl : (rankCut l c.text).length ≤ 1000 := by
    unfold rankCut
    split
    · exact hl
    · unfold delAt; simp; omega
  have hf := bsearch_api_Score (G := G) 127 bS (rankCut l c.text) (c.text, c.n) (rankAt (rankCut l c.text) c.text c.n) (by omega) en127 byScore_c (plc_le _ _) (fun j a h1 h2 => by simpa using plc_lt _ _ j a h1 h2) h1
  have hr := rank_c (G := G) c.text l (by omega)
  have hle := plc_le (fun a : Sc => decide (bS a (c.text, c.n) < 0)) (rankCut l c.text)
  change rankAt (rankCut l c.text) c.text c.n ≤ _ at hle
  have hi := insert_api_Score (G := G) (sR (rankCut l c.text)) (row_api_Score (c.text, c.n)) (rankAt (rankCut l c.text) c.text c.n) rfl (by simpa using hle) (by simpa using (by omega : (rankCut l c.text).length ≤ 1000000))
  rw [map_ins] at hi
  obtain ⟨kk, key, f, tx, cn⟩ := c
  simp only at hk h1 hf hi hr hle hcl
  subst hk
  unfold ranksV
  simp only
  generalize at_api_Score bS (rankCut l tx) (tx, cn) (rankAt (rankCut l tx) tx cn) = b at *
  generalize rankAt (rankCut l tx) tx cn = a at *
  rcases rankOf_cases l tx with hn | ⟨j, hj, hlt⟩
  · have hc : rankCut l tx = l := by unfold rankCut; rw [if_pos (by omega)]
    rw [hc] at hf hi hle ⊢
    rw [hn] at hr ⊢
    refine gcallc mixed Tryz.func164 ac_value_ranks ?_
    repeat' (first | (with_reducible first | refine Cn (fun h => ?_) fun h => ?_ | refine And.intro ?_ ?_ | refine wR ?_ | exact wr _ _ | refine wa ?_ | apply awp_join | refine q (told_c _) ?_ | refine qd (told_c _) ?_ | refine qz (told_c _) ?_ | refine q (failed_c _) ?_ | refine qd (failed_c _) ?_ | refine qz (failed_c _) ?_ | refine q (flag_c _) ?_ | refine qd (flag_c _) ?_ | refine qz (flag_c _) ?_ | refine qg hi ?_ | refine qgd hi ?_) | (with_reducible refine PCall.db (hr) ?_ ?_ ?_) | (with_reducible refine PCall.db (hf) ?_ ?_ ?_) | (with_reducible refine CallZ.z ?_) | simp -dsimp [go_sem, Cmd.c, Rep.c, toldR, failR, textR, flagN])
    all_goals first | omega | (have h' : l.length = 20 := by (simp at h; omega)
                               simp [h']; done) | (have h' : ¬ l.length = 20 := by (simp at h; omega)
                                                   simp [h']; done)
  · have hc : rankCut l tx = delAt l j := by unfold rankCut; rw [if_neg (by omega), hj]; rfl
    rw [hc] at hf hi hle ⊢
    rw [hj] at hr ⊢
    have hd := delete_api_Score (G := G) (sR l) j (by simpa using hlt) (by simpa using (by omega : l.length ≤ 1000000))
    rw [map_del] at hd
    have w3 : IntKind.i64.wrap ((j : Int) + 1) = (j : Int) + 1 := IntWalk.i64_in _ (by omega)
    have q3 : ((j : Int) < 0) = False := by simp
    have q1 : decide ((j : Int) < 0) = false := by simp
    have q2 : decide (0 ≤ (j : Int)) = true := by simp
    refine gcallc mixed Tryz.func164 ac_value_ranks ?_
    repeat' (first | (with_reducible first | refine Cn (fun h => ?_) fun h => ?_ | refine And.intro ?_ ?_ | refine wR ?_ | exact wr _ _ | refine wa ?_ | apply awp_join | refine q (told_c _) ?_ | refine qd (told_c _) ?_ | refine qz (told_c _) ?_ | refine q (failed_c _) ?_ | refine qd (failed_c _) ?_ | refine qz (failed_c _) ?_ | refine q (flag_c _) ?_ | refine qd (flag_c _) ?_ | refine qz (flag_c _) ?_ | refine qg hd ?_ | refine qgd hd ?_ | refine qg hi ?_ | refine qgd hi ?_) | (with_reducible refine PCall.db (hr) ?_ ?_ ?_) | (with_reducible refine PCall.db (hf) ?_ ?_ ?_) | (with_reducible refine CallZ.z ?_) | simp -dsimp [go_sem, w3, q1, q2, q3, false_and, if_false, Cmd.c, Rep.c, toldR, failR, textR, flagN])
    all_goals first | omega
theorem ranks15_c (k n : Int) (t : ByteArray) (l : List Sc) (ps its : List (List V)) (c : Cmd) (hk : c.kind = 15) (hl : l.length ≤ 1000) (h1 : ∀ (j : Nat) a, (rankCut l c.text)[j]? = some a → rankAt (rankCut l c.text) c.text c.n ≤ j → 0 ≤ bS a (c.text, c.n)) :
    DetCall Tryz.prog G 164 1 (ownHp k t n ps its (sR l)) [.one (.ptr 0 0), .agg c.c] (.agg (ranksV l c).2.c) (ownHp k t n ps its (sR (ranksV l c).1)) := by
  have hcl : (rankCut l c.text).length ≤ 1000 := by
    unfold rankCut
    split
    · exact hl
    · unfold delAt; simp; omega
  have hf := bsearch_api_Score (G := G) 127 bS (rankCut l c.text) (c.text, c.n) (rankAt (rankCut l c.text) c.text c.n) (by omega) en127 byScore_c (plc_le _ _) (fun j a h1 h2 => by simpa using plc_lt _ _ j a h1 h2) h1
  have hr := rank_c (G := G) c.text l (by omega)
  have hle := plc_le (fun a : Sc => decide (bS a (c.text, c.n) < 0)) (rankCut l c.text)
  change rankAt (rankCut l c.text) c.text c.n ≤ _ at hle
  have hi := insert_api_Score (G := G) (sR (rankCut l c.text)) (row_api_Score (c.text, c.n)) (rankAt (rankCut l c.text) c.text c.n) rfl (by simpa using hle) (by simpa using (by omega : (rankCut l c.text).length ≤ 1000000))
  rw [map_ins] at hi
  obtain ⟨kk, key, f, tx, cn⟩ := c
  simp only at hk h1 hf hi hr hle hcl
  subst hk
  unfold ranksV
  simp only
  generalize at_api_Score bS (rankCut l tx) (tx, cn) (rankAt (rankCut l tx) tx cn) = b at *
  generalize rankAt (rankCut l tx) tx cn = a at *
  rcases rankOf_cases l tx with hn | ⟨j, hj, hlt⟩
  · have hc : rankCut l tx = l := by unfold rankCut; rw [if_pos (by omega)]
    rw [hc] at hf hi hle ⊢
    rw [hn] at hr ⊢
    refine gcallc mixed Tryz.func164 ac_value_ranks ?_
    repeat' (first | (with_reducible first | refine Cn (fun h => ?_) fun h => ?_ | refine And.intro ?_ ?_ | refine wR ?_ | exact wr _ _ | refine wa ?_ | apply awp_join | refine q (told_c _) ?_ | refine qd (told_c _) ?_ | refine qz (told_c _) ?_ | refine q (failed_c _) ?_ | refine qd (failed_c _) ?_ | refine qz (failed_c _) ?_ | refine q (flag_c _) ?_ | refine qd (flag_c _) ?_ | refine qz (flag_c _) ?_ | refine qg hi ?_ | refine qgd hi ?_) | (with_reducible refine PCall.db (hr) ?_ ?_ ?_) | (with_reducible refine PCall.db (hf) ?_ ?_ ?_) | (with_reducible refine CallZ.z ?_) | simp -dsimp [go_sem, Cmd.c, Rep.c, toldR, failR, textR, flagN])
    all_goals first | omega | (have h' : l.length = 20 := by (simp at h; omega)
                               simp [h']; done) | (have h' : ¬ l.length = 20 := by (simp at h; omega)
                                                   simp [h']; done)
  · have hc : rankCut l tx = delAt l j := by unfold rankCut; rw [if_neg (by omega), hj]; rfl
    rw [hc] at hf hi hle ⊢
    rw [hj] at hr ⊢
    have hd := delete_api_Score (G := G) (sR l) j (by simpa using hlt) (by simpa using (by omega : l.length ≤ 1000000))
    rw [map_del] at hd
    have w3 : IntKind.i64.wrap ((j : Int) + 1) = (j : Int) + 1 := IntWalk.i64_in _ (by omega)
    have q3 : ((j : Int) < 0) = False := by simp
    have q1 : decide ((j : Int) < 0) = false := by simp
    have q2 : decide (0 ≤ (j : Int)) = true := by simp
    refine gcallc mixed Tryz.func164 ac_value_ranks ?_
    repeat' (first | (with_reducible first | refine Cn (fun h => ?_) fun h => ?_ | refine And.intro ?_ ?_ | refine wR ?_ | exact wr _ _ | refine wa ?_ | apply awp_join | refine q (told_c _) ?_ | refine qd (told_c _) ?_ | refine qz (told_c _) ?_ | refine q (failed_c _) ?_ | refine qd (failed_c _) ?_ | refine qz (failed_c _) ?_ | refine q (flag_c _) ?_ | refine qd (flag_c _) ?_ | refine qz (flag_c _) ?_ | refine qg hd ?_ | refine qgd hd ?_ | refine qg hi ?_ | refine qgd hi ?_) | (with_reducible refine PCall.db (hr) ?_ ?_ ?_) | (with_reducible refine PCall.db (hf) ?_ ?_ ?_) | (with_reducible refine CallZ.z ?_) | simp -dsimp [go_sem, w3, q1, q2, q3, false_and, if_false, Cmd.c, Rep.c, toldR, failR, textR, flagN])
    all_goals first | omega
theorem ranks16_c (k n : Int) (t : ByteArray) (l : List Sc) (ps its : List (List V)) (c : Cmd) (hk : c.kind = 16) (hl : l.length ≤ 1000) (h1 : ∀ (j : Nat) a, (rankCut l c.text)[j]? = some a → rankAt (rankCut l c.text) c.text c.n ≤ j → 0 ≤ bS a (c.text, c.n)) :
    DetCall Tryz.prog G 164 1 (ownHp k t n ps its (sR l)) [.one (.ptr 0 0), .agg c.c] (.agg (ranksV l c).2.c) (ownHp k t n ps its (sR (ranksV l c).1)) := by
  have hcl : (rankCut l c.text).length ≤ 1000 := by
    unfold rankCut
    split
    · exact hl
    · unfold delAt; simp; omega
  have hf := bsearch_api_Score (G := G) 127 bS (rankCut l c.text) (c.text, c.n) (rankAt (rankCut l c.text) c.text c.n) (by omega) en127 byScore_c (plc_le _ _) (fun j a h1 h2 => by simpa using plc_lt _ _ j a h1 h2) h1
  have hr := rank_c (G := G) c.text l (by omega)
  have hle := plc_le (fun a : Sc => decide (bS a (c.text, c.n) < 0)) (rankCut l c.text)
  change rankAt (rankCut l c.text) c.text c.n ≤ _ at hle
  have hi := insert_api_Score (G := G) (sR (rankCut l c.text)) (row_api_Score (c.text, c.n)) (rankAt (rankCut l c.text) c.text c.n) rfl (by simpa using hle) (by simpa using (by omega : (rankCut l c.text).length ≤ 1000000))
  rw [map_ins] at hi
  obtain ⟨kk, key, f, tx, cn⟩ := c
  simp only at hk h1 hf hi hr hle hcl
  subst hk
  unfold ranksV
  simp only
  generalize at_api_Score bS (rankCut l tx) (tx, cn) (rankAt (rankCut l tx) tx cn) = b at *
  generalize rankAt (rankCut l tx) tx cn = a at *
  rcases rankOf_cases l tx with hn | ⟨j, hj, hlt⟩
  · have hc : rankCut l tx = l := by unfold rankCut; rw [if_pos (by omega)]
    rw [hc] at hf hi hle ⊢
    rw [hn] at hr ⊢
    refine gcallc mixed Tryz.func164 ac_value_ranks ?_
    repeat' (first | (with_reducible first | refine Cn (fun h => ?_) fun h => ?_ | refine And.intro ?_ ?_ | refine wR ?_ | exact wr _ _ | refine wa ?_ | apply awp_join | refine q (told_c _) ?_ | refine qd (told_c _) ?_ | refine qz (told_c _) ?_ | refine q (failed_c _) ?_ | refine qd (failed_c _) ?_ | refine qz (failed_c _) ?_ | refine q (flag_c _) ?_ | refine qd (flag_c _) ?_ | refine qz (flag_c _) ?_ | refine qg hi ?_ | refine qgd hi ?_) | (with_reducible refine PCall.db (hr) ?_ ?_ ?_) | (with_reducible refine PCall.db (hf) ?_ ?_ ?_) | (with_reducible refine CallZ.z ?_) | simp -dsimp [go_sem, Cmd.c, Rep.c, toldR, failR, textR, flagN])
    all_goals first | omega | (have h' : l.length = 20 := by (simp at h; omega)
                               simp [h']; done) | (have h' : ¬ l.length = 20 := by (simp at h; omega)
                                                   simp [h']; done)
  · have hc : rankCut l tx = delAt l j := by unfold rankCut; rw [if_neg (by omega), hj]; rfl
    rw [hc] at hf hi hle ⊢
    rw [hj] at hr ⊢
    have hd := delete_api_Score (G := G) (sR l) j (by simpa using hlt) (by simpa using (by omega : l.length ≤ 1000000))
    rw [map_del] at hd
    have w3 : IntKind.i64.wrap ((j : Int) + 1) = (j : Int) + 1 := IntWalk.i64_in _ (by omega)
    have q3 : ((j : Int) < 0) = False := by simp
    have q1 : decide ((j : Int) < 0) = false := by simp
    have q2 : decide (0 ≤ (j : Int)) = true := by simp
    refine gcallc mixed Tryz.func164 ac_value_ranks ?_
    repeat' (first | (with_reducible first | refine Cn (fun h => ?_) fun h => ?_ | refine And.intro ?_ ?_ | refine wR ?_ | exact wr _ _ | refine wa ?_ | apply awp_join | refine q (told_c _) ?_ | refine qd (told_c _) ?_ | refine qz (told_c _) ?_ | refine q (failed_c _) ?_ | refine qd (failed_c _) ?_ | refine qz (failed_c _) ?_ | refine q (flag_c _) ?_ | refine qd (flag_c _) ?_ | refine qz (flag_c _) ?_ | refine qg hd ?_ | refine qgd hd ?_ | refine qg hi ?_ | refine qgd hi ?_) | (with_reducible refine PCall.db (hr) ?_ ?_ ?_) | (with_reducible refine PCall.db (hf) ?_ ?_ ?_) | (with_reducible refine CallZ.z ?_) | simp -dsimp [go_sem, w3, q1, q2, q3, false_and, if_false, Cmd.c, Rep.c, toldR, failR, textR, flagN])
    all_goals first | omega
end Go.Proofs.YtpdcfljbabpakaaGreatDoor
set_option linter.unusedVariables false
set_option linter.unusedSimpArgs false
set_option maxRecDepth 100000
set_option maxHeartbeats 8000000
namespace Go.Proofs.YtpdcfljbabpakaaGreatDoor
open Go Go.RowKit Go.Proofs.AE
variable {G : Nat → AV}
theorem clone_api_Pair (rows : List (List V)) (hu : UL 2 rows) (hx : rows.length ≤ 1000000) : PCall Tryz.prog G 132 [.one (.v (.sl rows))] (.one (.v (.sl rows))) := by
  refine pcallc mixed Tryz.func132 ac_slices_Clone_api_Pair ?_
  repeat' (first | (with_reducible first | refine Cn (fun h => ?_) fun h => ?_ | refine And.intro ?_ ?_ | refine wR ?_ | exact wr _ _ | refine wa ?_ | apply awp_join | refine q (cases q) ?_ | refine qd (cases q) ?_ | refine qz (cases q) ?_) | (intro q hq) | (with_reducible refine CallZ.z ?_) | simp -dsimp [go_sem])
  all_goals first | omega | exact hu | exact hu _ ‹_› | simp_all
theorem cloneG_api_Pair (rows : List (List V)) (hu : UL 2 rows) (hx : rows.length ≤ 1000000) : DetCall Tryz.prog G 132 0 [] [.one (.v (.sl rows))] (.one (.ar 0)) [some (.arr 165 2 rows)] := by
  refine gcallc mixed Tryz.func132 ac_slices_Clone_api_Pair ?_
  repeat' (first | (with_reducible first | refine Cn (fun h => ?_) fun h => ?_ | refine And.intro ?_ ?_ | refine wR ?_ | exact wr _ _ | refine wa ?_ | apply awp_join | refine q (cases q) ?_ | refine qd (cases q) ?_ | refine qz (cases q) ?_) | (intro q hq) | (with_reducible refine CallZ.z ?_) | simp -dsimp [go_sem])
  all_goals first | omega | exact hu | exact hu _ ‹_› | simp_all
theorem clone_api_Score (rows : List (List V)) (hu : UL 2 rows) (hx : rows.length ≤ 1000000) : PCall Tryz.prog G 133 [.one (.v (.sl rows))] (.one (.v (.sl rows))) := by
  refine pcallc mixed Tryz.func133 ac_slices_Clone_api_Score ?_
  repeat' (first | (with_reducible first | refine Cn (fun h => ?_) fun h => ?_ | refine And.intro ?_ ?_ | refine wR ?_ | exact wr _ _ | refine wa ?_ | apply awp_join | refine q (cases q) ?_ | refine qd (cases q) ?_ | refine qz (cases q) ?_) | (intro q hq) | (with_reducible refine CallZ.z ?_) | simp -dsimp [go_sem])
  all_goals first | omega | exact hu | exact hu _ ‹_› | simp_all
theorem cloneG_api_Score (rows : List (List V)) (hu : UL 2 rows) (hx : rows.length ≤ 1000000) : DetCall Tryz.prog G 133 0 [] [.one (.v (.sl rows))] (.one (.ar 0)) [some (.arr 167 2 rows)] := by
  refine gcallc mixed Tryz.func133 ac_slices_Clone_api_Score ?_
  repeat' (first | (with_reducible first | refine Cn (fun h => ?_) fun h => ?_ | refine And.intro ?_ ?_ | refine wR ?_ | exact wr _ _ | refine wa ?_ | apply awp_join | refine q (cases q) ?_ | refine qd (cases q) ?_ | refine qz (cases q) ?_) | (intro q hq) | (with_reducible refine CallZ.z ?_) | simp -dsimp [go_sem])
  all_goals first | omega | exact hu | exact hu _ ‹_› | simp_all
theorem clone_string (rows : List (List V)) (hu : UL 1 rows) (hx : rows.length ≤ 1000000) : PCall Tryz.prog G 108 [.one (.v (.sl rows))] (.one (.v (.sl rows))) := by
  refine pcallc mixed Tryz.func108 ac_slices_Clone_string ?_
  repeat' (first | (with_reducible first | refine Cn (fun h => ?_) fun h => ?_ | refine And.intro ?_ ?_ | refine wR ?_ | exact wr _ _ | refine wa ?_ | apply awp_join | refine q (cases q) ?_ | refine qd (cases q) ?_ | refine qz (cases q) ?_) | (intro q hq) | (with_reducible refine CallZ.z ?_) | simp -dsimp [go_sem])
  all_goals first | omega | exact hu | exact hu _ ‹_› | simp_all
theorem cloneG_string (rows : List (List V)) (hu : UL 1 rows) (hx : rows.length ≤ 1000000) : DetCall Tryz.prog G 108 0 [] [.one (.v (.sl rows))] (.one (.ar 0)) [some (.arr 9 1 rows)] := by
  refine gcallc mixed Tryz.func108 ac_slices_Clone_string ?_
  repeat' (first | (with_reducible first | refine Cn (fun h => ?_) fun h => ?_ | refine And.intro ?_ ?_ | refine wR ?_ | exact wr _ _ | refine wa ?_ | apply awp_join | refine q (cases q) ?_ | refine qd (cases q) ?_ | refine qz (cases q) ?_) | (intro q hq) | (with_reducible refine CallZ.z ?_) | simp -dsimp [go_sem])
  all_goals first | omega | exact hu | exact hu _ ‹_› | simp_all
theorem own_c (k n : Int) (t : ByteArray) (p i s : List (List V)) (hp : UL 2 p) (hi : UL 1 i) (hs : UL 2 s) (h1 : p.length ≤ 1000000) (h2 : i.length ≤ 1000000) (h3 : s.length ≤ 1000000) :
    PCall Tryz.prog G 150 [.agg [iC k, sC t, iC n, .v (.sl p), .v (.sl i), .v (.sl s)]] (.agg [iC k, sC t, iC n, .v (.sl p), .v (.sl i), .v (.sl s)]) := by
  have c1 := clone_api_Pair (G := G) p hp h1
  have c2 := clone_string (G := G) i hi h2
  have c3 := clone_api_Score (G := G) s hs h3
  refine pcallc mixed Tryz.func150 ac_value_own ?_
  repeat' (first | (with_reducible first | refine Cn (fun h => ?_) fun h => ?_ | refine And.intro ?_ ?_ | refine wR ?_ | exact wr _ _ | refine wa ?_ | apply awp_join | refine q c1 ?_ | refine qd c1 ?_ | refine qz c1 ?_ | refine q c2 ?_ | refine qd c2 ?_ | refine qz c2 ?_ | refine q c3 ?_ | refine qd c3 ?_ | refine qz c3 ?_) | (with_reducible refine CallZ.z ?_) | simp -dsimp [go_sem])
theorem own_g (k n : Int) (t : ByteArray) (p i s : List (List V)) (hp : UL 2 p) (hi : UL 1 i) (hs : UL 2 s) (h1 : p.length ≤ 1000000) (h2 : i.length ≤ 1000000) (h3 : s.length ≤ 1000000) :
    DetCall Tryz.prog G 150 0 [] [.agg [iC k, sC t, iC n, .v (.sl p), .v (.sl i), .v (.sl s)]] (.agg [iC k, sC t, iC n, .ar 0, .ar 1, .ar 2]) [some (.arr 165 2 p), some (.arr 9 1 i), some (.arr 167 2 s)] := by
  have c1 := cloneG_api_Pair (G := G) p hp h1
  have c2 := cloneG_string (G := G) i hi h2
  have c3 := cloneG_api_Score (G := G) s hs h3
  refine gcallc mixed Tryz.func150 ac_value_own ?_
  repeat' (first | (with_reducible first | refine Cn (fun h => ?_) fun h => ?_ | refine And.intro ?_ ?_ | refine wR ?_ | exact wr _ _ | refine wa ?_ | apply awp_join | refine qg c1 ?_ | refine qgd c1 ?_ | refine qg c2 ?_ | refine qgd c2 ?_ | refine qg c3 ?_ | refine qgd c3 ?_) | (with_reducible refine CallZ.z ?_) | simp -dsimp [go_sem])
def allV (v : Val) : List ByteArray := v.items ++ v.pairs.map (·.1) ++ v.scores.map (·.1)
def accR {α : Type} (l : List ByteArray) (f : α → ByteArray) (p : List α) (i : Nat) : List (List V) := strRows (l ++ (p.take i).map f)
theorem accR_zero {α : Type} (l : List ByteArray) (f : α → ByteArray) (p : List α) : accR l f p 0 = strRows l := by simp [accR]
theorem accR_all {α : Type} (l : List ByteArray) (f : α → ByteArray) (p : List α) : accR l f p p.length = strRows (l ++ p.map f) := by simp [accR]
theorem accR_succ {α : Type} (l : List ByteArray) (f : α → ByteArray) (p : List α) {i : Nat} {a : α} (h : p[i]? = some a) : accR l f p (i + 1) = accR l f p i ++ [[V.lit (.string (f a))]] := by
  have htk : p.take (i + 1) = p.take i ++ [a] := by rw [List.take_add_one, h]; rfl
  unfold accR
  rw [htk]
  simp
theorem accR_len {α : Type} (l : List ByteArray) (f : α → ByteArray) (p : List α) {i : Nat} (h : i ≤ p.length) : (accR l f p i).length = l.length + i := by
  unfold accR
  simp
  omega
theorem all_c (v : Val) (hs : v.Small) : PCall Tryz.prog G 160 [.agg v.c] (.one (.v (.sl (strRows (allV v))))) := by
  obtain ⟨k, t, n, p, l, s⟩ := v
  obtain ⟨s1, s2, s3⟩ := hs
  simp only at s1 s2 s3
  have c2 := cloneG_string (G := G) (strRows l) (ul_i l) (by simp; omega)
  unfold Val.c allV
  simp only
  refine pcallc mixed Tryz.func160 ac_value_all ?_
  repeat' (first | (with_reducible first | refine Cn (fun h => ?_) fun h => ?_ | refine And.intro ?_ ?_ | refine wR ?_ | exact wr _ _ | refine wa ?_ | apply awp_join | refine qg c2 ?_ | refine qgd c2 ?_) | (with_reducible refine CallZ.z ?_) | simp -dsimp [go_sem])
  refine awp_loop (fun i : Nat => ⟨[(1, .one (.ptr 0 0)), (3, .one (.ar 1)), (12, .one (.v (.sl (pR p)))), (13, iV p.length), (14, iV i)], G, [some (.box 117 [iC k, sC t, iC n, .v (.sl (pR p)), .v (.sl (strRows l)), .v (.sl (sR s))]), some (.arr 9 1 (accR l Prod.fst p i))]⟩) (fun i => i ≤ p.length) (fun i => p.length - i) 0 (weak_auto ?_) (Nat.zero_le _) ?_
  · simp -dsimp [go_sem, accR_zero]
  · intro i hi
    have hal := accR_len l Prod.fst p hi
    simp -dsimp [go_sem]
    refine Cnd.intro (fun h => ?_) (fun h => ?_)
    · have hlt : i < p.length := by simpa using h
      obtain ⟨a, ha⟩ : ∃ a, p[i]? = some a := ⟨_, List.getElem?_eq_getElem hlt⟩
      have w1 : IntKind.i64.wrap ((i : Int) + 1) = (i : Int) + 1 := IntWalk.i64_in _ (by omega)
      have hut := ul_i [a.1]
      have htk := accR_succ l Prod.fst p ha
      repeat' (first | (with_reducible first | refine Cn (fun h => ?_) fun h => ?_ | refine And.intro ?_ ?_ | refine wR ?_ | exact wr _ _ | refine wa ?_ | apply awp_join) | (with_reducible refine CallZ.z ?_) | simp -dsimp [go_sem, ha, w1, hal])
      all_goals first
        | omega
        | assumption
        | (refine Again.auto (i + 1) ?_ ?_ ?_
           · simp -dsimp [go_sem, htk]
           · exact hlt
           · show p.length - (i + 1) < p.length - i; omega)
    · have hge : ¬ i < p.length := by simpa using h
      have hie : i = p.length := by omega
      subst hie
      have hfin := accR_all l Prod.fst p
      rw [hfin]
      repeat' (first | (with_reducible first | refine Cn (fun h => ?_) fun h => ?_ | refine And.intro ?_ ?_ | refine wR ?_ | exact wr _ _ | refine wa ?_ | apply awp_join) | (with_reducible refine CallZ.z ?_) | simp -dsimp [go_sem])
      refine awp_loop (fun i : Nat => ⟨[(1, .one (.ptr 0 0)), (3, .one (.ar 1)), (25, .one (.v (.sl (sR s)))), (26, iV s.length), (27, iV i)], G, [some (.box 117 [iC k, sC t, iC n, .v (.sl (pR p)), .v (.sl (strRows l)), .v (.sl (sR s))]), some (.arr 9 1 (accR (l ++ p.map Prod.fst) Prod.fst s i))]⟩) (fun i => i ≤ s.length) (fun i => s.length - i) 0 (weak_auto ?_) (Nat.zero_le _) ?_
      · simp -dsimp [go_sem, accR_zero]
      · intro i hi
        have hal := accR_len (l ++ p.map Prod.fst) Prod.fst s hi
        simp at hal
        simp -dsimp [go_sem]
        refine Cnd.intro (fun h => ?_) (fun h => ?_)
        · have hlt : i < s.length := by simpa using h
          obtain ⟨a, ha⟩ : ∃ a, s[i]? = some a := ⟨_, List.getElem?_eq_getElem hlt⟩
          have w1 : IntKind.i64.wrap ((i : Int) + 1) = (i : Int) + 1 := IntWalk.i64_in _ (by omega)
          have hut := ul_i [a.1]
          have htk := accR_succ (l ++ p.map Prod.fst) Prod.fst s ha
          repeat' (first | (with_reducible first | refine Cn (fun h => ?_) fun h => ?_ | refine And.intro ?_ ?_ | refine wR ?_ | exact wr _ _ | refine wa ?_ | apply awp_join) | (with_reducible refine CallZ.z ?_) | simp -dsimp [go_sem, ha, w1, hal])
          all_goals first
            | omega
            | assumption
            | (refine Again.auto (i + 1) ?_ ?_ ?_
               · simp -dsimp [go_sem, htk]
               · exact hlt
               · show s.length - (i + 1) < s.length - i; omega)
        · have hge : ¬ i < s.length := by simpa using h
          have hie : i = s.length := by omega
          subst hie
          have hfin := accR_all (l ++ p.map Prod.fst) Prod.fst s
          rw [hfin]
          repeat' (first | (with_reducible first | refine Cn (fun h => ?_) fun h => ?_ | refine And.intro ?_ ?_ | refine wR ?_ | exact wr _ _ | refine wa ?_ | apply awp_join) | (with_reducible refine CallZ.z ?_) | simp -dsimp [go_sem])
end Go.Proofs.YtpdcfljbabpakaaGreatDoor
set_option linter.unusedVariables false
set_option linter.unusedSimpArgs false
set_option maxRecDepth 100000
set_option maxHeartbeats 8000000
namespace Go.Proofs.YtpdcfljbabpakaaGreatDoor
open Go Go.RowKit Go.Proofs.AE
variable {G : Nat → AV}
def Val.plain (v : Val) : Hp := plainHp v.kind v.text v.count (pR v.pairs) (strRows v.items) (sR v.scores)
def Val.own (v : Val) : Hp := ownHp v.kind v.text v.count (pR v.pairs) (strRows v.items) (sR v.scores)
def doV (v : Val) (c : Cmd) : Val × Rep :=
  if c.kind = 1 then (⟨1, c.text, 0, [], [], []⟩, toldR 0)
  else if c.kind = 2 then (v, textR v.text)
  else if c.kind = 3 then (if okCount (v.count + c.n) = true then ({ v with count := v.count + c.n }, toldR (v.count + c.n)) else (v, failR 7))
  else if c.kind = 17 then (v, toldR v.els)
  else if c.kind = 18 then (v, ⟨0, ⟨#[]⟩, 0, allV v⟩)
  else if v.kind = 3 then ({ v with pairs := (hashV v.pairs c).1 }, (hashV v.pairs c).2)
  else if v.kind = 4 then ({ v with items := (listV v.items c).1 }, (listV v.items c).2)
  else if v.kind = 5 then ({ v with items := (setV v.items c).1 }, (setV v.items c).2)
  else ({ v with scores := (ranksV v.scores c).1 }, (ranksV v.scores c).2)
theorem do1_c (v : Val) (c : Cmd) (hk : c.kind = 1) (hs : v.Small) : DetCall Tryz.prog G 154 1 v.plain [.one (.ptr 0 0), .agg c.c] (.agg (doV v c).2.c) (doV v c).1.plain := by
  have hall := all_c (G := G) v hs
  obtain ⟨k, t, n, p, l, s⟩ := v
  obtain ⟨s1, s2, s3⟩ := hs
  obtain ⟨kk, key, f, tx, cn⟩ := c
  simp only at hk s1 s2 s3
  subst hk
  have he := elements_c (G := G) k n t (pR p) (strRows l) (sR s) (by simp; omega)
  unfold Val.c at hall
  simp only at hall
  unfold Val.plain doV
  refine gcallc mixed Tryz.func154 ac_value_do ?_
  repeat' (first | (with_reducible first | refine Cn (fun h => ?_) fun h => ?_ | refine And.intro ?_ ?_ | refine wR ?_ | exact wr _ _ | refine wa ?_ | apply awp_join | refine q (told_c _) ?_ | refine qd (told_c _) ?_ | refine qz (told_c _) ?_ | refine q he ?_ | refine qd he ?_ | refine qz he ?_ | refine q hall ?_ | refine qd hall ?_ | refine qz hall ?_) | (with_reducible refine CallZ.z ?_) | simp -dsimp [go_sem, Cmd.c, Rep.c, toldR, failR, textR, Val.els])
theorem do2_c (v : Val) (c : Cmd) (hk : c.kind = 2) (hs : v.Small) : DetCall Tryz.prog G 154 1 v.plain [.one (.ptr 0 0), .agg c.c] (.agg (doV v c).2.c) (doV v c).1.plain := by
  have hall := all_c (G := G) v hs
  obtain ⟨k, t, n, p, l, s⟩ := v
  obtain ⟨s1, s2, s3⟩ := hs
  obtain ⟨kk, key, f, tx, cn⟩ := c
  simp only at hk s1 s2 s3
  subst hk
  have he := elements_c (G := G) k n t (pR p) (strRows l) (sR s) (by simp; omega)
  unfold Val.c at hall
  simp only at hall
  unfold Val.plain doV
  refine gcallc mixed Tryz.func154 ac_value_do ?_
  repeat' (first | (with_reducible first | refine Cn (fun h => ?_) fun h => ?_ | refine And.intro ?_ ?_ | refine wR ?_ | exact wr _ _ | refine wa ?_ | apply awp_join | refine q (told_c _) ?_ | refine qd (told_c _) ?_ | refine qz (told_c _) ?_ | refine q he ?_ | refine qd he ?_ | refine qz he ?_ | refine q hall ?_ | refine qd hall ?_ | refine qz hall ?_) | (with_reducible refine CallZ.z ?_) | simp -dsimp [go_sem, Cmd.c, Rep.c, toldR, failR, textR, Val.els])
theorem do17_c (v : Val) (c : Cmd) (hk : c.kind = 17) (hs : v.Small) : DetCall Tryz.prog G 154 1 v.plain [.one (.ptr 0 0), .agg c.c] (.agg (doV v c).2.c) (doV v c).1.plain := by
  have hall := all_c (G := G) v hs
  obtain ⟨k, t, n, p, l, s⟩ := v
  obtain ⟨s1, s2, s3⟩ := hs
  obtain ⟨kk, key, f, tx, cn⟩ := c
  simp only at hk s1 s2 s3
  subst hk
  have he := elements_c (G := G) k n t (pR p) (strRows l) (sR s) (by simp; omega)
  unfold Val.c at hall
  simp only at hall
  unfold Val.plain doV
  refine gcallc mixed Tryz.func154 ac_value_do ?_
  repeat' (first | (with_reducible first | refine Cn (fun h => ?_) fun h => ?_ | refine And.intro ?_ ?_ | refine wR ?_ | exact wr _ _ | refine wa ?_ | apply awp_join | refine q (told_c _) ?_ | refine qd (told_c _) ?_ | refine qz (told_c _) ?_ | refine q he ?_ | refine qd he ?_ | refine qz he ?_ | refine q hall ?_ | refine qd hall ?_ | refine qz hall ?_) | (with_reducible refine CallZ.z ?_) | simp -dsimp [go_sem, Cmd.c, Rep.c, toldR, failR, textR, Val.els])
theorem do18_c (v : Val) (c : Cmd) (hk : c.kind = 18) (hs : v.Small) : DetCall Tryz.prog G 154 1 v.plain [.one (.ptr 0 0), .agg c.c] (.agg (doV v c).2.c) (doV v c).1.plain := by
  have hall := all_c (G := G) v hs
  obtain ⟨k, t, n, p, l, s⟩ := v
  obtain ⟨s1, s2, s3⟩ := hs
  obtain ⟨kk, key, f, tx, cn⟩ := c
  simp only at hk s1 s2 s3
  subst hk
  have he := elements_c (G := G) k n t (pR p) (strRows l) (sR s) (by simp; omega)
  unfold Val.c at hall
  simp only at hall
  unfold Val.plain doV
  refine gcallc mixed Tryz.func154 ac_value_do ?_
  repeat' (first | (with_reducible first | refine Cn (fun h => ?_) fun h => ?_ | refine And.intro ?_ ?_ | refine wR ?_ | exact wr _ _ | refine wa ?_ | apply awp_join | refine q (told_c _) ?_ | refine qd (told_c _) ?_ | refine qz (told_c _) ?_ | refine q he ?_ | refine qd he ?_ | refine qz he ?_ | refine q hall ?_ | refine qd hall ?_ | refine qz hall ?_) | (with_reducible refine CallZ.z ?_) | simp -dsimp [go_sem, Cmd.c, Rep.c, toldR, failR, textR, Val.els])
theorem do3_c (v : Val) (c : Cmd) (hk : c.kind = 3) (h1 : okCount v.count = true) (h2 : okCount c.n = true) : DetCall Tryz.prog G 154 1 v.plain [.one (.ptr 0 0), .agg c.c] (.agg (doV v c).2.c) (doV v c).1.plain := by
  obtain ⟨k, t, n, p, l, s⟩ := v
  obtain ⟨kk, key, f, tx, cn⟩ := c
  simp only at hk h1 h2
  subst hk
  unfold okCount at h1 h2
  simp at h1 h2
  have w : IntKind.i64.wrap (n + cn) = n + cn := IntWalk.i64_in _ (by omega)
  have hc := count_c (G := G) (n + cn)
  unfold Val.plain doV
  simp only
  cases hq : okCount (n + cn) with
  | true =>
    rw [hq] at hc
    refine gcallc mixed Tryz.func154 ac_value_do ?_
    repeat' (first | (with_reducible first | refine Cn (fun h => ?_) fun h => ?_ | refine And.intro ?_ ?_ | refine wR ?_ | exact wr _ _ | refine wa ?_ | apply awp_join | refine q (told_c _) ?_ | refine qd (told_c _) ?_ | refine qz (told_c _) ?_ | refine q (failed_c _) ?_ | refine qd (failed_c _) ?_ | refine qz (failed_c _) ?_ | refine q hc ?_ | refine qd hc ?_ | refine qz hc ?_) | (with_reducible refine CallZ.z ?_) | simp -dsimp [go_sem, w, Cmd.c, Rep.c, toldR, failR, textR])
  | false =>
    rw [hq] at hc
    refine gcallc mixed Tryz.func154 ac_value_do ?_
    repeat' (first | (with_reducible first | refine Cn (fun h => ?_) fun h => ?_ | refine And.intro ?_ ?_ | refine wR ?_ | exact wr _ _ | refine wa ?_ | apply awp_join | refine q (told_c _) ?_ | refine qd (told_c _) ?_ | refine qz (told_c _) ?_ | refine q (failed_c _) ?_ | refine qd (failed_c _) ?_ | refine qz (failed_c _) ?_ | refine q hc ?_ | refine qd hc ?_ | refine qz hc ?_) | (with_reducible refine CallZ.z ?_) | simp -dsimp [go_sem, w, Cmd.c, Rep.c, toldR, failR, textR])
theorem do9_c (v : Val) (c : Cmd) (hk : c.kind = 9) (hv : v.kind = 4) (hs : v.Small) (h0 : 0 < v.items.length) : DetCall Tryz.prog G 154 1 v.plain [.one (.ptr 0 0), .agg c.c] (.agg (doV v c).2.c) (doV v c).1.plain := by
  obtain ⟨k, t, n, p, l, s⟩ := v
  obtain ⟨s1, s2, s3⟩ := hs
  simp only at hv s1 s2 s3 h0
  subst hv
  have hc := list9_c (G := G) 4 n t l (pR p) (sR s) c hk s2 h0
  obtain ⟨kk, key, f, tx, cn⟩ := c
  simp only at hk
  subst hk
  unfold Val.plain doV
  simp only
  generalize listV l ⟨9, key, f, tx, cn⟩ = q at *
  unfold Cmd.c Rep.c at *
  simp only at hc
  refine gcallc mixed Tryz.func154 ac_value_do ?_
  repeat' (first | (with_reducible first | refine Cn (fun h => ?_) fun h => ?_ | refine And.intro ?_ ?_ | refine wR ?_ | exact wr _ _ | refine wa ?_ | apply awp_join | refine qg hc ?_ | refine qgd hc ?_) | (with_reducible refine CallZ.z ?_) | simp -dsimp [go_sem])
theorem do10_c (v : Val) (c : Cmd) (hk : c.kind = 10) (hv : v.kind = 4) (hs : v.Small) (h0 : 0 < v.items.length) : DetCall Tryz.prog G 154 1 v.plain [.one (.ptr 0 0), .agg c.c] (.agg (doV v c).2.c) (doV v c).1.plain := by
  obtain ⟨k, t, n, p, l, s⟩ := v
  obtain ⟨s1, s2, s3⟩ := hs
  simp only at hv s1 s2 s3 h0
  subst hv
  have hc := list10_c (G := G) 4 n t l (pR p) (sR s) c hk s2 h0
  obtain ⟨kk, key, f, tx, cn⟩ := c
  simp only at hk
  subst hk
  unfold Val.plain doV
  simp only
  generalize listV l ⟨10, key, f, tx, cn⟩ = q at *
  unfold Cmd.c Rep.c at *
  simp only at hc
  refine gcallc mixed Tryz.func154 ac_value_do ?_
  repeat' (first | (with_reducible first | refine Cn (fun h => ?_) fun h => ?_ | refine And.intro ?_ ?_ | refine wR ?_ | exact wr _ _ | refine wa ?_ | apply awp_join | refine qg hc ?_ | refine qgd hc ?_) | (with_reducible refine CallZ.z ?_) | simp -dsimp [go_sem])
end Go.Proofs.YtpdcfljbabpakaaGreatDoor
set_option linter.unusedVariables false
set_option linter.unusedSimpArgs false
set_option maxRecDepth 100000
set_option maxHeartbeats 8000000
namespace Go.Proofs.YtpdcfljbabpakaaGreatDoor
open Go Go.RowKit Go.Proofs.AE
theorem cb_self : ∀ a : List UInt8, Lib.compareBytes a a = 0
  | [] => rfl
  | x :: a => by simp [Lib.compareBytes, UInt8.lt_irrefl, cb_self a]
theorem u8_cases (x y : UInt8) : (x < y ∧ ¬ y < x ∧ x ≠ y) ∨ (y < x ∧ ¬ x < y ∧ x ≠ y) ∨ (x = y ∧ ¬ x < y ∧ ¬ y < x) := by
  simp only [UInt8.lt_iff_toNat_lt]
  rcases Nat.lt_trichotomy x.toNat y.toNat with h | h | h
  · exact .inl ⟨h, by omega, fun e => by subst e; omega⟩
  · exact .inr (.inr ⟨UInt8.toNat_inj.1 h, by omega, by omega⟩)
  · exact .inr (.inl ⟨h, by omega, fun e => by subst e; omega⟩)
theorem cb_eq : ∀ {a b : List UInt8}, Lib.compareBytes a b = 0 → a = b
  | [], [], _ => rfl
  | [], _ :: _, h => by simp [Lib.compareBytes] at h
  | _ :: _, [], h => by simp [Lib.compareBytes] at h
  | x :: a, y :: b, h => by
    unfold Lib.compareBytes at h
    rcases u8_cases x y with ⟨h1, h2, h3⟩ | ⟨h1, h2, h3⟩ | ⟨h1, h2, h3⟩
    · rw [if_pos h1] at h; simp at h
    · rw [if_neg h2, if_pos h1] at h; simp at h
    · rw [if_neg h2, if_neg h3] at h; rw [h1, cb_eq h]
theorem cb_anti : ∀ a b : List UInt8, Lib.compareBytes b a = - Lib.compareBytes a b
  | [], [] => rfl
  | [], _ :: _ => by simp [Lib.compareBytes]
  | _ :: _, [] => by simp [Lib.compareBytes]
  | x :: a, y :: b => by
    unfold Lib.compareBytes
    rcases u8_cases x y with ⟨h1, h2, h3⟩ | ⟨h1, h2, h3⟩ | ⟨h1, h2, h3⟩
    · rw [if_neg h2, if_pos h1, if_pos h1]; rfl
    · rw [if_pos h1, if_neg h2, if_pos h1]
    · rw [if_neg h3, if_neg h2, if_neg h2, if_neg h3]; exact cb_anti a b
theorem cb_tr : ∀ {a b c : List UInt8}, Lib.compareBytes a b < 0 → Lib.compareBytes b c < 0 → Lib.compareBytes a c < 0
  | _, [], [], _, h => by simp [Lib.compareBytes] at h
  | _, _ :: _, [], _, h => by simp [Lib.compareBytes] at h
  | [], _, _ :: _, _, _ => by simp [Lib.compareBytes]
  | _ :: _, [], _, h, _ => by simp [Lib.compareBytes] at h
  | x :: a, y :: b, z :: c, h1, h2 => by
    unfold Lib.compareBytes at h1 h2 ⊢
    rcases u8_cases x y with ⟨p1, p2, p3⟩ | ⟨p1, p2, p3⟩ | ⟨p1, p2, p3⟩
    · rcases u8_cases y z with ⟨q1, q2, q3⟩ | ⟨q1, q2, q3⟩ | ⟨q1, q2, q3⟩
      · have : x < z := by simp only [UInt8.lt_iff_toNat_lt] at *; omega
        rw [if_pos this]; decide
      · rw [if_neg q2, if_pos q1] at h2; simp at h2
      · subst q1; rw [if_pos p1]; decide
    · rw [if_neg p2, if_pos p1] at h1; simp at h1
    · subst p1
      rw [if_neg p2, if_neg p3] at h1
      rcases u8_cases x z with ⟨q1, q2, q3⟩ | ⟨q1, q2, q3⟩ | ⟨q1, q2, q3⟩
      · rw [if_pos q1]; decide
      · rw [if_neg q2, if_pos q1] at h2; simp at h2
      · rw [if_neg q2, if_neg q3] at h2 ⊢
        exact cb_tr h1 h2
theorem cb_less : ∀ a b : List UInt8, Op.bytesLess a b = decide (Lib.compareBytes a b < 0)
  | [], [] => by simp [Op.bytesLess, Lib.compareBytes]
  | [], _ :: _ => by simp [Op.bytesLess, Lib.compareBytes]
  | _ :: _, [] => by simp [Op.bytesLess, Lib.compareBytes]
  | x :: a, y :: b => by
    unfold Lib.compareBytes Op.bytesLess
    rcases u8_cases x y with ⟨h1, h2, h3⟩ | ⟨h1, h2, h3⟩ | ⟨h1, h2, h3⟩
    · simp [h1]
    · simp [h1, h2, h3]
    · subst h1
      simp [h2, cb_less a b]
theorem ba_ext {a b : ByteArray} (h : a.data.toList = b.data.toList) : a = b := by
  cases a; cases b
  congr 1
  exact Array.ext' h
theorem cmpB_self (a : ByteArray) : cmpB a a = 0 := cb_self _
theorem cmpB_eq {a b : ByteArray} (h : cmpB a b = 0) : a = b := ba_ext (cb_eq h)
theorem cmpB_anti (a b : ByteArray) : cmpB b a = - cmpB a b := cb_anti _ _
theorem cmpB_tr (a b c : ByteArray) (h1 : cmpB a b < 0) (h2 : cmpB b c < 0) : cmpB a c < 0 := cb_tr h1 h2
theorem lessB_eq (a b : ByteArray) : lessB a b = decide (cmpB a b < 0) := cb_less _ _
theorem bF_tr (a b c : Pr) (h1 : bF a b < 0) (h2 : bF b c < 0) : bF a c < 0 := cmpB_tr _ _ _ h1 h2
theorem cmpI_lt (a b : Int) : cmpI a b < 0 ↔ a < b := by unfold cmpI; repeat' split <;> omega
theorem cmpI_zero (a b : Int) : cmpI a b = 0 ↔ a = b := by unfold cmpI; repeat' split <;> omega
theorem bS_lt (a b : Sc) : bS a b < 0 ↔ a.2 < b.2 ∨ (a.2 = b.2 ∧ cmpB a.1 b.1 < 0) := by
  unfold bS
  split
  · rename_i h
    rw [cmpI_zero] at h
    constructor
    · intro h'; exact .inr ⟨h, h'⟩
    · rintro (h' | ⟨_, h'⟩)
      · omega
      · exact h'
  · rename_i h
    rw [cmpI_zero] at h
    rw [cmpI_lt]
    constructor
    · intro h'; exact .inl h'
    · rintro (h' | ⟨h', _⟩)
      · exact h'
      · exact absurd h' h
theorem bS_tr (a b c : Sc) (h1 : bS a b < 0) (h2 : bS b c < 0) : bS a c < 0 := by
  rw [bS_lt] at *
  rcases h1 with h1 | ⟨h1, h1'⟩ <;> rcases h2 with h2 | ⟨h2, h2'⟩
  · exact .inl (by omega)
  · exact .inl (by omega)
  · exact .inl (by omega)
  · exact .inr ⟨by omega, cmpB_tr _ _ _ h1' h2'⟩
theorem hash_ge {ps : List Pr} (h : rising bF ps = true) (f : ByteArray) : ∀ (j : Nat) a, ps[j]? = some a → hashAt ps f ≤ j → 0 ≤ cmpB a.1 f := by
  intro j a h1 h2
  have := plc_ge (cmp := bF) (fun p : Pr => decide (cmpB p.1 f < 0)) bF_tr (fun a b h h' => by simp at h' ⊢; exact cmpB_tr _ _ _ h h') ps h j a h1 h2
  simpa using this
theorem set_ge {l : List ByteArray} (h : rising cmpB l = true) (t : ByteArray) : ∀ (j : Nat) a, l[j]? = some a → setAt l t ≤ j → lessB a t = false :=
  fun j a h1 h2 => plc_ge (cmp := cmpB) (fun a => lessB a t) cmpB_tr (fun a b h h' => by rw [lessB_eq] at h' ⊢; simp at h' ⊢; exact cmpB_tr _ _ _ h h') l h j a h1 h2
theorem rising_del {α : Type} {cmp : α → α → Int} (tr : ∀ a b c, cmp a b < 0 → cmp b c < 0 → cmp a c < 0) : ∀ (l : List α) (i : Nat), rising cmp l = true → rising cmp (delAt l i) = true
  | [], i, _ => by simp [delAt, rising]
  | x :: l, 0, h => by simpa [delAt] using rising_tail h
  | x :: l, i + 1, h => by
    have ih := rising_del tr l i (rising_tail h)
    have e : delAt (x :: l) (i + 1) = x :: delAt l i := by simp [delAt]
    rw [e]
    cases hd : delAt l i with
    | nil => rfl
    | cons y r =>
      rw [hd] at ih
      simp only [rising, Bool.and_eq_true, decide_eq_true_eq]
      refine ⟨rising_head tr h y ?_, ih⟩
      have : y ∈ delAt l i := by rw [hd]; exact List.mem_cons_self ..
      unfold delAt at this
      rcases List.mem_append.1 this with h | h
      · exact List.mem_of_mem_take h
      · exact List.mem_of_mem_drop h
theorem rank_ge {l : List Sc} (h : rising bS l = true) (m : ByteArray) (n : Int) : ∀ (j : Nat) a, (rankCut l m)[j]? = some a → rankAt (rankCut l m) m n ≤ j → 0 ≤ bS a (m, n) := by
  intro j a h1 h2
  have hr : rising bS (rankCut l m) = true := by
    unfold rankCut
    split
    · exact h
    · exact rising_del bS_tr l _ h
  have := plc_ge (cmp := bS) (fun a : Sc => decide (bS a (m, n) < 0)) bS_tr (fun a b h h' => by simp at h' ⊢; exact bS_tr _ _ _ h h') (rankCut l m) hr j a h1 h2
  simpa using this
theorem insAt_length {α : Type} (l : List α) (i : Nat) (x : α) : (insAt l i x).length = l.length + 1 := by unfold insAt; simp; omega
theorem delAt_length {α : Type} (l : List α) (i : Nat) : (delAt l i).length ≤ l.length := by unfold delAt; simp; omega
theorem hashV_len (ps : List Pr) (c : Cmd) : (hashV ps c).1.length ≤ ps.length + 1 := by
  unfold hashV
  simp only
  have := delAt_length ps (hashAt ps c.field)
  repeat' split
  all_goals first | (simp; done) | (rw [insAt_length]; omega) | (simp; omega) | omega
theorem listV_len (ps : List ByteArray) (c : Cmd) : (listV ps c).1.length ≤ ps.length + 1 := by
  unfold listV
  repeat' split
  all_goals first | (simp; done) | (simp; omega)
theorem setV_len (ps : List ByteArray) (c : Cmd) : (setV ps c).1.length ≤ ps.length + 1 := by
  unfold setV
  simp only
  have := delAt_length ps (setAt ps c.text)
  repeat' split
  all_goals first | (simp; done) | (rw [insAt_length]; omega) | (simp; omega) | omega
theorem rankCut_len (ps : List Sc) (m : ByteArray) : (rankCut ps m).length ≤ ps.length := by
  unfold rankCut
  split
  · exact Nat.le_refl _
  · exact delAt_length _ _
theorem ranksV_len (ps : List Sc) (c : Cmd) : (ranksV ps c).1.length ≤ ps.length + 1 := by
  unfold ranksV
  simp only
  have := rankCut_len ps c.text
  repeat' split
  all_goals first | (simp; done) | (rw [insAt_length]; omega) | (simp; omega) | omega
theorem doV_len (v : Val) (c : Cmd) : (doV v c).1.pairs.length ≤ v.pairs.length + 1 ∧ (doV v c).1.items.length ≤ v.items.length + 1 ∧ (doV v c).1.scores.length ≤ v.scores.length + 1 := by
  have h1 := hashV_len v.pairs c
  have h2 := listV_len v.items c
  have h3 := setV_len v.items c
  have h4 := ranksV_len v.scores c
  unfold doV
  repeat' split
  all_goals (simp; try omega)
end Go.Proofs.YtpdcfljbabpakaaGreatDoor
set_option linter.unusedVariables false
set_option linter.unusedSimpArgs false
set_option maxRecDepth 100000
set_option maxHeartbeats 8000000
namespace Go.Proofs.YtpdcfljbabpakaaGreatDoor
open Go Go.RowKit Go.Proofs.AE
variable {G : Nat → AV}
theorem checkK1_c (v : Val) (hs : v.Small) (hk : v.kind = 1) : PCall Tryz.prog G 98 [.agg v.c] (iV (checkV v)) := by
  obtain ⟨k, t, n, p, l, s⟩ := v
  obtain ⟨s1, s2, s3⟩ := hs
  simp only at hk s1 s2 s3
  subst hk
  obtain ⟨b1, hb1⟩ : ∃ b, l.any longS = b := ⟨_, rfl⟩
  obtain ⟨b2, hb2⟩ : ∃ b, p.any badP = b := ⟨_, rfl⟩
  obtain ⟨b3, hb3⟩ : ∃ b, s.any longM = b := ⟨_, rfl⟩
  obtain ⟨b4, hb4⟩ : ∃ b, s.any farN = b := ⟨_, rfl⟩
  obtain ⟨b5, hb5⟩ : ∃ b, rising bF p = b := ⟨_, rfl⟩
  obtain ⟨b6, hb6⟩ : ∃ b, rising bS s = b := ⟨_, rfl⟩
  obtain ⟨b7, hb7⟩ : ∃ b, rising cmpB l = b := ⟨_, rfl⟩
  obtain ⟨b8, hb8⟩ : ∃ b, okText t = b := ⟨_, rfl⟩
  obtain ⟨b9, hb9⟩ : ∃ b, okCount n = b := ⟨_, rfl⟩
  obtain ⟨d, hd⟩ : ∃ b, (n != 0) = b := ⟨_, rfl⟩
  obtain ⟨d1, hd1⟩ : ∃ b, decide (t = ⟨#[]⟩) = b := ⟨_, rfl⟩
  have hC : checkV ⟨1, t, n, p, l, s⟩ = if ((1 != 1 && !d1) || (1 != 2 && d) || decide (0 < (if (1 : Int) = 3 then 0 else (p.length : Int)) + (if (1 : Int) = 4 ∨ (1 : Int) = 5 then 0 else (l.length : Int)) + (if (1 : Int) = 6 then 0 else (s.length : Int)))) = true then 8
      else if 3 ≤ (1 : Int) ∧ ((p.length : Int) + l.length + s.length < 1 ∨ 20 < (p.length : Int) + l.length + s.length) then 1 else if (!b8 || b1) = true then 1 else if b2 = true then 1 else if b3 = true then 1 else if (!b9 || b4) = true then 2
      else if ((b5 && b6 && (decide ((1 : Int) ≠ 5) || b7)) && onceB s s.length) = true then 0 else 10 := by
    simp only [checkV, Val.bad, Val.els, Val.order, Val.ord, hb1, hb2, hb3, hb4, hb5, hb6, hb7, hb8, hb9, ← hd, ← hd1]
    rw [if_neg (by decide), if_neg (by decide)]
    simp
  rw [hC]
  clear hC
  refine pcallc mixed Tryz.func98 ac_value_Check ?_
  unfold Val.c
  repeat' (first | (with_reducible first | refine Cn (fun h => ?_) fun h => ?_ | refine And.intro ?_ ?_ | refine wR ?_ | exact wr _ _ | refine wa ?_ | apply awp_join | refine q1 (by exact elements_c _ _ _ _ _ _ (by simp; omega)) ?_ | refine q1d (by exact elements_c _ _ _ _ _ _ (by simp; omega)) ?_ | refine q1 (by exact elements_c 1 n t [] (strRows l) (sR s) (by simp; omega)) ?_ | refine q1d (by exact elements_c 1 n t [] (strRows l) (sR s) (by simp; omega)) ?_ | refine q (elements_c 1 n t [] (strRows l) (sR s) (by simp; omega)) ?_ | refine qd (elements_c 1 n t [] (strRows l) (sR s) (by simp; omega)) ?_ | refine qz (elements_c 1 n t [] (strRows l) (sR s) (by simp; omega)) ?_ | refine q1 (by exact elements_c 1 n t (pR p) [] (sR s) (by simp; omega)) ?_ | refine q1d (by exact elements_c 1 n t (pR p) [] (sR s) (by simp; omega)) ?_ | refine q (elements_c 1 n t (pR p) [] (sR s) (by simp; omega)) ?_ | refine qd (elements_c 1 n t (pR p) [] (sR s) (by simp; omega)) ?_ | refine qz (elements_c 1 n t (pR p) [] (sR s) (by simp; omega)) ?_ | refine q1 (by exact elements_c 1 n t (pR p) (strRows l) [] (by simp; omega)) ?_ | refine q1d (by exact elements_c 1 n t (pR p) (strRows l) [] (by simp; omega)) ?_ | refine q (elements_c 1 n t (pR p) (strRows l) [] (by simp; omega)) ?_ | refine qd (elements_c 1 n t (pR p) (strRows l) [] (by simp; omega)) ?_ | refine qz (elements_c 1 n t (pR p) (strRows l) [] (by simp; omega)) ?_ | refine q (text_c _) ?_ | refine qd (text_c _) ?_ | refine qz (text_c _) ?_ | refine q1 (by exact containsFunc_c _ longS _ (by omega) en116 checkFn1_c) ?_ | refine q1d (by exact containsFunc_c _ longS _ (by omega) en116 checkFn1_c) ?_ | refine q1 (by exact containsFunc_api_Pair _ badP _ (by omega) en118 checkFn2_c) ?_ | refine q1d (by exact containsFunc_api_Pair _ badP _ (by omega) en118 checkFn2_c) ?_ | refine q1 (by exact containsFunc_api_Score _ longM _ (by omega) en121 checkFn3_c) ?_ | refine q1d (by exact containsFunc_api_Score _ longM _ (by omega) en121 checkFn3_c) ?_ | refine q (count_c _) ?_ | refine qd (count_c _) ?_ | refine qz (count_c _) ?_ | refine q1 (by exact containsFunc_api_Score _ farN _ (by omega) en123 checkFn4_c) ?_ | refine q1d (by exact containsFunc_api_Score _ farN _ (by omega) en123 checkFn4_c) ?_ | refine q1 (by exact rising_api_Pair _ bF _ (by omega) en125 byField_c) ?_ | refine q1d (by exact rising_api_Pair _ bF _ (by omega) en125 byField_c) ?_ | refine q1 (by exact rising_api_Score _ bS _ (by omega) en127 byScore_c) ?_ | refine q1d (by exact rising_api_Score _ bS _ (by omega) en127 byScore_c) ?_ | refine q1 (by exact rising_string _ cmpB _ (by omega) en129 stringsCompare_c) ?_ | refine q1d (by exact rising_string _ cmpB _ (by omega) en129 stringsCompare_c) ?_) | (with_reducible refine CallZ.z ?_) | simp -dsimp [go_sem, hb1, hb2, hb3, hb4, hb5, hb6, hb7, hb8, hb9, hd, hd1])
  all_goals first
    | (refine awp_loop (fun i : Nat => ⟨[(1, .one (.ptr 0 0)), (4, bV ((b5 && b6 && (decide ((1 : Int) ≠ 5) || b7)) && onceB s i)), (100, .one (.v (.sl (sR s)))), (101, iV s.length), (102, iV i)], G, [some (.box 117 (Val.mk 1 t n p l s).c)]⟩) (fun i => i ≤ s.length) (fun i => s.length - i) 0 (weak_auto ?_) (Nat.zero_le _) ?_
       · clear hb1 hb2 hb3 hb4 hb5 hb6 hb7 hb8 hb9 hd hd1
         simp_all -dsimp [go_sem, onceB, Val.c]
       · intro i hi
         have hul := ul_s s
         simp -dsimp [go_sem, Val.c]
         refine Cnd.intro (fun h => ?_) (fun h => ?_)
         · have hlt : i < s.length := by simpa using h
           obtain ⟨a, ha⟩ : ∃ a, s[i] = a := ⟨_, rfl⟩
           have hgi : s[i]? = some a := by rw [List.getElem?_eq_getElem hlt, ha]
           have w1 : IntKind.i64.wrap ((i : Int) + 1) = (i : Int) + 1 := IntWalk.i64_in _ (by omega)
           have hon := onceB_succ s hgi
           obtain ⟨o1, ho1⟩ : ∃ b, onceB s i = b := ⟨_, rfl⟩
           rw [ho1] at hon ⊢
           repeat' (first | (with_reducible first | refine Cn (fun h => ?_) fun h => ?_ | refine And.intro ?_ ?_ | refine wR ?_ | exact wr _ _ | refine wa ?_ | apply awp_join | refine q1 (by exact rank_c _ _ (by simp; omega)) ?_ | refine q1d (by exact rank_c _ _ (by simp; omega)) ?_) | (with_reducible refine CallZ.z ?_) | simp -dsimp [go_sem, hgi, w1, ← List.map_take])
           all_goals first
             | omega
             | assumption
             | (with_reducible refine Again.auto (i + 1) ?_ ?_ ?_)
           all_goals first
             | exact hlt
             | (show s.length - (i + 1) < s.length - i; omega)
             | (rw [hon]; clear hb1 hb2 hb3 hb4 hb5 hb6 hb7 hb8 hb9 hd hd1 hon; simp_all -dsimp [go_sem, Val.c]; done)
         · have hge : ¬ i < s.length := by simpa using h
           have : i = s.length := by omega
           subst this
           repeat' (first | (with_reducible first | refine Cn (fun h => ?_) fun h => ?_ | refine And.intro ?_ ?_ | refine wR ?_ | exact wr _ _ | refine wa ?_ | apply awp_join) | (with_reducible refine CallZ.z ?_) | simp -dsimp [go_sem])
           all_goals (clear hb1 hb2 hb3 hb4 hb5 hb6 hb7 hb8 hb9 hd hd1; (try simp_all); try first | omega | ((repeat' split) <;> first | rfl | omega | (exfalso; simp_all; done))))
    | (clear hb1 hb2 hb3 hb4 hb5 hb6 hb7 hb8 hb9 hd hd1; simp_all; done)
    | (clear hb1 hb2 hb3 hb4 hb5 hb6 hb7 hb8 hb9 hd hd1; simp_all; omega)
    | (clear hb1 hb2 hb3 hb4 hb5 hb6 hb7 hb8 hb9 hd hd1; simp_all; (try intros); (repeat' split) <;> first | rfl | omega | (simp_all; done) | (simp_all; omega))
theorem checkK2_c (v : Val) (hs : v.Small) (hk : v.kind = 2) : PCall Tryz.prog G 98 [.agg v.c] (iV (checkV v)) := by
  obtain ⟨k, t, n, p, l, s⟩ := v
  obtain ⟨s1, s2, s3⟩ := hs
  simp only at hk s1 s2 s3
  subst hk
  obtain ⟨b1, hb1⟩ : ∃ b, l.any longS = b := ⟨_, rfl⟩
  obtain ⟨b2, hb2⟩ : ∃ b, p.any badP = b := ⟨_, rfl⟩
  obtain ⟨b3, hb3⟩ : ∃ b, s.any longM = b := ⟨_, rfl⟩
  obtain ⟨b4, hb4⟩ : ∃ b, s.any farN = b := ⟨_, rfl⟩
  obtain ⟨b5, hb5⟩ : ∃ b, rising bF p = b := ⟨_, rfl⟩
  obtain ⟨b6, hb6⟩ : ∃ b, rising bS s = b := ⟨_, rfl⟩
  obtain ⟨b7, hb7⟩ : ∃ b, rising cmpB l = b := ⟨_, rfl⟩
  obtain ⟨b8, hb8⟩ : ∃ b, okText t = b := ⟨_, rfl⟩
  obtain ⟨b9, hb9⟩ : ∃ b, okCount n = b := ⟨_, rfl⟩
  obtain ⟨d, hd⟩ : ∃ b, (n != 0) = b := ⟨_, rfl⟩
  obtain ⟨d1, hd1⟩ : ∃ b, decide (t = ⟨#[]⟩) = b := ⟨_, rfl⟩
  have hC : checkV ⟨2, t, n, p, l, s⟩ = if ((2 != 1 && !d1) || (2 != 2 && d) || decide (0 < (if (2 : Int) = 3 then 0 else (p.length : Int)) + (if (2 : Int) = 4 ∨ (2 : Int) = 5 then 0 else (l.length : Int)) + (if (2 : Int) = 6 then 0 else (s.length : Int)))) = true then 8
      else if 3 ≤ (2 : Int) ∧ ((p.length : Int) + l.length + s.length < 1 ∨ 20 < (p.length : Int) + l.length + s.length) then 1 else if (!b8 || b1) = true then 1 else if b2 = true then 1 else if b3 = true then 1 else if (!b9 || b4) = true then 2
      else if ((b5 && b6 && (decide ((2 : Int) ≠ 5) || b7)) && onceB s s.length) = true then 0 else 10 := by
    simp only [checkV, Val.bad, Val.els, Val.order, Val.ord, hb1, hb2, hb3, hb4, hb5, hb6, hb7, hb8, hb9, ← hd, ← hd1]
    rw [if_neg (by decide), if_neg (by decide)]
    simp
  rw [hC]
  clear hC
  refine pcallc mixed Tryz.func98 ac_value_Check ?_
  unfold Val.c
  repeat' (first | (with_reducible first | refine Cn (fun h => ?_) fun h => ?_ | refine And.intro ?_ ?_ | refine wR ?_ | exact wr _ _ | refine wa ?_ | apply awp_join | refine q1 (by exact elements_c _ _ _ _ _ _ (by simp; omega)) ?_ | refine q1d (by exact elements_c _ _ _ _ _ _ (by simp; omega)) ?_ | refine q1 (by exact elements_c 2 n t [] (strRows l) (sR s) (by simp; omega)) ?_ | refine q1d (by exact elements_c 2 n t [] (strRows l) (sR s) (by simp; omega)) ?_ | refine q (elements_c 2 n t [] (strRows l) (sR s) (by simp; omega)) ?_ | refine qd (elements_c 2 n t [] (strRows l) (sR s) (by simp; omega)) ?_ | refine qz (elements_c 2 n t [] (strRows l) (sR s) (by simp; omega)) ?_ | refine q1 (by exact elements_c 2 n t (pR p) [] (sR s) (by simp; omega)) ?_ | refine q1d (by exact elements_c 2 n t (pR p) [] (sR s) (by simp; omega)) ?_ | refine q (elements_c 2 n t (pR p) [] (sR s) (by simp; omega)) ?_ | refine qd (elements_c 2 n t (pR p) [] (sR s) (by simp; omega)) ?_ | refine qz (elements_c 2 n t (pR p) [] (sR s) (by simp; omega)) ?_ | refine q1 (by exact elements_c 2 n t (pR p) (strRows l) [] (by simp; omega)) ?_ | refine q1d (by exact elements_c 2 n t (pR p) (strRows l) [] (by simp; omega)) ?_ | refine q (elements_c 2 n t (pR p) (strRows l) [] (by simp; omega)) ?_ | refine qd (elements_c 2 n t (pR p) (strRows l) [] (by simp; omega)) ?_ | refine qz (elements_c 2 n t (pR p) (strRows l) [] (by simp; omega)) ?_ | refine q (text_c _) ?_ | refine qd (text_c _) ?_ | refine qz (text_c _) ?_ | refine q1 (by exact containsFunc_c _ longS _ (by omega) en116 checkFn1_c) ?_ | refine q1d (by exact containsFunc_c _ longS _ (by omega) en116 checkFn1_c) ?_ | refine q1 (by exact containsFunc_api_Pair _ badP _ (by omega) en118 checkFn2_c) ?_ | refine q1d (by exact containsFunc_api_Pair _ badP _ (by omega) en118 checkFn2_c) ?_ | refine q1 (by exact containsFunc_api_Score _ longM _ (by omega) en121 checkFn3_c) ?_ | refine q1d (by exact containsFunc_api_Score _ longM _ (by omega) en121 checkFn3_c) ?_ | refine q (count_c _) ?_ | refine qd (count_c _) ?_ | refine qz (count_c _) ?_ | refine q1 (by exact containsFunc_api_Score _ farN _ (by omega) en123 checkFn4_c) ?_ | refine q1d (by exact containsFunc_api_Score _ farN _ (by omega) en123 checkFn4_c) ?_ | refine q1 (by exact rising_api_Pair _ bF _ (by omega) en125 byField_c) ?_ | refine q1d (by exact rising_api_Pair _ bF _ (by omega) en125 byField_c) ?_ | refine q1 (by exact rising_api_Score _ bS _ (by omega) en127 byScore_c) ?_ | refine q1d (by exact rising_api_Score _ bS _ (by omega) en127 byScore_c) ?_ | refine q1 (by exact rising_string _ cmpB _ (by omega) en129 stringsCompare_c) ?_ | refine q1d (by exact rising_string _ cmpB _ (by omega) en129 stringsCompare_c) ?_) | (with_reducible refine CallZ.z ?_) | simp -dsimp [go_sem, hb1, hb2, hb3, hb4, hb5, hb6, hb7, hb8, hb9, hd, hd1])
  all_goals first
    | (refine awp_loop (fun i : Nat => ⟨[(1, .one (.ptr 0 0)), (4, bV ((b5 && b6 && (decide ((2 : Int) ≠ 5) || b7)) && onceB s i)), (100, .one (.v (.sl (sR s)))), (101, iV s.length), (102, iV i)], G, [some (.box 117 (Val.mk 2 t n p l s).c)]⟩) (fun i => i ≤ s.length) (fun i => s.length - i) 0 (weak_auto ?_) (Nat.zero_le _) ?_
       · clear hb1 hb2 hb3 hb4 hb5 hb6 hb7 hb8 hb9 hd hd1
         simp_all -dsimp [go_sem, onceB, Val.c]
       · intro i hi
         have hul := ul_s s
         simp -dsimp [go_sem, Val.c]
         refine Cnd.intro (fun h => ?_) (fun h => ?_)
         · have hlt : i < s.length := by simpa using h
           obtain ⟨a, ha⟩ : ∃ a, s[i] = a := ⟨_, rfl⟩
           have hgi : s[i]? = some a := by rw [List.getElem?_eq_getElem hlt, ha]
           have w1 : IntKind.i64.wrap ((i : Int) + 1) = (i : Int) + 1 := IntWalk.i64_in _ (by omega)
           have hon := onceB_succ s hgi
           obtain ⟨o1, ho1⟩ : ∃ b, onceB s i = b := ⟨_, rfl⟩
           rw [ho1] at hon ⊢
           repeat' (first | (with_reducible first | refine Cn (fun h => ?_) fun h => ?_ | refine And.intro ?_ ?_ | refine wR ?_ | exact wr _ _ | refine wa ?_ | apply awp_join | refine q1 (by exact rank_c _ _ (by simp; omega)) ?_ | refine q1d (by exact rank_c _ _ (by simp; omega)) ?_) | (with_reducible refine CallZ.z ?_) | simp -dsimp [go_sem, hgi, w1, ← List.map_take])
           all_goals first
             | omega
             | assumption
             | (with_reducible refine Again.auto (i + 1) ?_ ?_ ?_)
           all_goals first
             | exact hlt
             | (show s.length - (i + 1) < s.length - i; omega)
             | (rw [hon]; clear hb1 hb2 hb3 hb4 hb5 hb6 hb7 hb8 hb9 hd hd1 hon; simp_all -dsimp [go_sem, Val.c]; done)
         · have hge : ¬ i < s.length := by simpa using h
           have : i = s.length := by omega
           subst this
           repeat' (first | (with_reducible first | refine Cn (fun h => ?_) fun h => ?_ | refine And.intro ?_ ?_ | refine wR ?_ | exact wr _ _ | refine wa ?_ | apply awp_join) | (with_reducible refine CallZ.z ?_) | simp -dsimp [go_sem])
           all_goals (clear hb1 hb2 hb3 hb4 hb5 hb6 hb7 hb8 hb9 hd hd1; (try simp_all); try first | omega | ((repeat' split) <;> first | rfl | omega | (exfalso; simp_all; done))))
    | (clear hb1 hb2 hb3 hb4 hb5 hb6 hb7 hb8 hb9 hd hd1; simp_all; done)
    | (clear hb1 hb2 hb3 hb4 hb5 hb6 hb7 hb8 hb9 hd hd1; simp_all; omega)
    | (clear hb1 hb2 hb3 hb4 hb5 hb6 hb7 hb8 hb9 hd hd1; simp_all; (try intros); (repeat' split) <;> first | rfl | omega | (simp_all; done) | (simp_all; omega))
theorem checkK3_c (v : Val) (hs : v.Small) (hk : v.kind = 3) : PCall Tryz.prog G 98 [.agg v.c] (iV (checkV v)) := by
  obtain ⟨k, t, n, p, l, s⟩ := v
  obtain ⟨s1, s2, s3⟩ := hs
  simp only at hk s1 s2 s3
  subst hk
  obtain ⟨b1, hb1⟩ : ∃ b, l.any longS = b := ⟨_, rfl⟩
  obtain ⟨b2, hb2⟩ : ∃ b, p.any badP = b := ⟨_, rfl⟩
  obtain ⟨b3, hb3⟩ : ∃ b, s.any longM = b := ⟨_, rfl⟩
  obtain ⟨b4, hb4⟩ : ∃ b, s.any farN = b := ⟨_, rfl⟩
  obtain ⟨b5, hb5⟩ : ∃ b, rising bF p = b := ⟨_, rfl⟩
  obtain ⟨b6, hb6⟩ : ∃ b, rising bS s = b := ⟨_, rfl⟩
  obtain ⟨b7, hb7⟩ : ∃ b, rising cmpB l = b := ⟨_, rfl⟩
  obtain ⟨b8, hb8⟩ : ∃ b, okText t = b := ⟨_, rfl⟩
  obtain ⟨b9, hb9⟩ : ∃ b, okCount n = b := ⟨_, rfl⟩
  obtain ⟨d, hd⟩ : ∃ b, (n != 0) = b := ⟨_, rfl⟩
  obtain ⟨d1, hd1⟩ : ∃ b, decide (t = ⟨#[]⟩) = b := ⟨_, rfl⟩
  have hC : checkV ⟨3, t, n, p, l, s⟩ = if ((3 != 1 && !d1) || (3 != 2 && d) || decide (0 < (if (3 : Int) = 3 then 0 else (p.length : Int)) + (if (3 : Int) = 4 ∨ (3 : Int) = 5 then 0 else (l.length : Int)) + (if (3 : Int) = 6 then 0 else (s.length : Int)))) = true then 8
      else if 3 ≤ (3 : Int) ∧ ((p.length : Int) + l.length + s.length < 1 ∨ 20 < (p.length : Int) + l.length + s.length) then 1 else if (!b8 || b1) = true then 1 else if b2 = true then 1 else if b3 = true then 1 else if (!b9 || b4) = true then 2
      else if ((b5 && b6 && (decide ((3 : Int) ≠ 5) || b7)) && onceB s s.length) = true then 0 else 10 := by
    simp only [checkV, Val.bad, Val.els, Val.order, Val.ord, hb1, hb2, hb3, hb4, hb5, hb6, hb7, hb8, hb9, ← hd, ← hd1]
    rw [if_neg (by decide), if_neg (by decide)]
    simp
  rw [hC]
  clear hC
  refine pcallc mixed Tryz.func98 ac_value_Check ?_
  unfold Val.c
  repeat' (first | (with_reducible first | refine Cn (fun h => ?_) fun h => ?_ | refine And.intro ?_ ?_ | refine wR ?_ | exact wr _ _ | refine wa ?_ | apply awp_join | refine q1 (by exact elements_c _ _ _ _ _ _ (by simp; omega)) ?_ | refine q1d (by exact elements_c _ _ _ _ _ _ (by simp; omega)) ?_ | refine q1 (by exact elements_c 3 n t [] (strRows l) (sR s) (by simp; omega)) ?_ | refine q1d (by exact elements_c 3 n t [] (strRows l) (sR s) (by simp; omega)) ?_ | refine q (elements_c 3 n t [] (strRows l) (sR s) (by simp; omega)) ?_ | refine qd (elements_c 3 n t [] (strRows l) (sR s) (by simp; omega)) ?_ | refine qz (elements_c 3 n t [] (strRows l) (sR s) (by simp; omega)) ?_ | refine q1 (by exact elements_c 3 n t (pR p) [] (sR s) (by simp; omega)) ?_ | refine q1d (by exact elements_c 3 n t (pR p) [] (sR s) (by simp; omega)) ?_ | refine q (elements_c 3 n t (pR p) [] (sR s) (by simp; omega)) ?_ | refine qd (elements_c 3 n t (pR p) [] (sR s) (by simp; omega)) ?_ | refine qz (elements_c 3 n t (pR p) [] (sR s) (by simp; omega)) ?_ | refine q1 (by exact elements_c 3 n t (pR p) (strRows l) [] (by simp; omega)) ?_ | refine q1d (by exact elements_c 3 n t (pR p) (strRows l) [] (by simp; omega)) ?_ | refine q (elements_c 3 n t (pR p) (strRows l) [] (by simp; omega)) ?_ | refine qd (elements_c 3 n t (pR p) (strRows l) [] (by simp; omega)) ?_ | refine qz (elements_c 3 n t (pR p) (strRows l) [] (by simp; omega)) ?_ | refine q (text_c _) ?_ | refine qd (text_c _) ?_ | refine qz (text_c _) ?_ | refine q1 (by exact containsFunc_c _ longS _ (by omega) en116 checkFn1_c) ?_ | refine q1d (by exact containsFunc_c _ longS _ (by omega) en116 checkFn1_c) ?_ | refine q1 (by exact containsFunc_api_Pair _ badP _ (by omega) en118 checkFn2_c) ?_ | refine q1d (by exact containsFunc_api_Pair _ badP _ (by omega) en118 checkFn2_c) ?_ | refine q1 (by exact containsFunc_api_Score _ longM _ (by omega) en121 checkFn3_c) ?_ | refine q1d (by exact containsFunc_api_Score _ longM _ (by omega) en121 checkFn3_c) ?_ | refine q (count_c _) ?_ | refine qd (count_c _) ?_ | refine qz (count_c _) ?_ | refine q1 (by exact containsFunc_api_Score _ farN _ (by omega) en123 checkFn4_c) ?_ | refine q1d (by exact containsFunc_api_Score _ farN _ (by omega) en123 checkFn4_c) ?_ | refine q1 (by exact rising_api_Pair _ bF _ (by omega) en125 byField_c) ?_ | refine q1d (by exact rising_api_Pair _ bF _ (by omega) en125 byField_c) ?_ | refine q1 (by exact rising_api_Score _ bS _ (by omega) en127 byScore_c) ?_ | refine q1d (by exact rising_api_Score _ bS _ (by omega) en127 byScore_c) ?_ | refine q1 (by exact rising_string _ cmpB _ (by omega) en129 stringsCompare_c) ?_ | refine q1d (by exact rising_string _ cmpB _ (by omega) en129 stringsCompare_c) ?_) | (with_reducible refine CallZ.z ?_) | simp -dsimp [go_sem, hb1, hb2, hb3, hb4, hb5, hb6, hb7, hb8, hb9, hd, hd1])
  all_goals first
    | (refine awp_loop (fun i : Nat => ⟨[(1, .one (.ptr 0 0)), (4, bV ((b5 && b6 && (decide ((3 : Int) ≠ 5) || b7)) && onceB s i)), (100, .one (.v (.sl (sR s)))), (101, iV s.length), (102, iV i)], G, [some (.box 117 (Val.mk 3 t n p l s).c)]⟩) (fun i => i ≤ s.length) (fun i => s.length - i) 0 (weak_auto ?_) (Nat.zero_le _) ?_
       · clear hb1 hb2 hb3 hb4 hb5 hb6 hb7 hb8 hb9 hd hd1
         simp_all -dsimp [go_sem, onceB, Val.c]
       · intro i hi
         have hul := ul_s s
         simp -dsimp [go_sem, Val.c]
         refine Cnd.intro (fun h => ?_) (fun h => ?_)
         · have hlt : i < s.length := by simpa using h
           obtain ⟨a, ha⟩ : ∃ a, s[i] = a := ⟨_, rfl⟩
           have hgi : s[i]? = some a := by rw [List.getElem?_eq_getElem hlt, ha]
           have w1 : IntKind.i64.wrap ((i : Int) + 1) = (i : Int) + 1 := IntWalk.i64_in _ (by omega)
           have hon := onceB_succ s hgi
           obtain ⟨o1, ho1⟩ : ∃ b, onceB s i = b := ⟨_, rfl⟩
           rw [ho1] at hon ⊢
           repeat' (first | (with_reducible first | refine Cn (fun h => ?_) fun h => ?_ | refine And.intro ?_ ?_ | refine wR ?_ | exact wr _ _ | refine wa ?_ | apply awp_join | refine q1 (by exact rank_c _ _ (by simp; omega)) ?_ | refine q1d (by exact rank_c _ _ (by simp; omega)) ?_) | (with_reducible refine CallZ.z ?_) | simp -dsimp [go_sem, hgi, w1, ← List.map_take])
           all_goals first
             | omega
             | assumption
             | (with_reducible refine Again.auto (i + 1) ?_ ?_ ?_)
           all_goals first
             | exact hlt
             | (show s.length - (i + 1) < s.length - i; omega)
             | (rw [hon]; clear hb1 hb2 hb3 hb4 hb5 hb6 hb7 hb8 hb9 hd hd1 hon; simp_all -dsimp [go_sem, Val.c]; done)
         · have hge : ¬ i < s.length := by simpa using h
           have : i = s.length := by omega
           subst this
           repeat' (first | (with_reducible first | refine Cn (fun h => ?_) fun h => ?_ | refine And.intro ?_ ?_ | refine wR ?_ | exact wr _ _ | refine wa ?_ | apply awp_join) | (with_reducible refine CallZ.z ?_) | simp -dsimp [go_sem])
           all_goals (clear hb1 hb2 hb3 hb4 hb5 hb6 hb7 hb8 hb9 hd hd1; (try simp_all); try first | omega | ((repeat' split) <;> first | rfl | omega | (exfalso; simp_all; done))))
    | (clear hb1 hb2 hb3 hb4 hb5 hb6 hb7 hb8 hb9 hd hd1; simp_all; done)
    | (clear hb1 hb2 hb3 hb4 hb5 hb6 hb7 hb8 hb9 hd hd1; simp_all; omega)
    | (clear hb1 hb2 hb3 hb4 hb5 hb6 hb7 hb8 hb9 hd hd1; simp_all; (try intros); (repeat' split) <;> first | rfl | omega | (simp_all; done) | (simp_all; omega))
end Go.Proofs.YtpdcfljbabpakaaGreatDoor
