/- What inserting and deleting answer. -/
import Derived.Test.YtcfpphadlgbfdaaJ1
set_option linter.unusedVariables false
set_option linter.unusedSimpArgs false
set_option maxRecDepth 100000
set_option maxHeartbeats 8000000
namespace Go.Proofs.Ytcfpphadlgbfdaa
open Go Go.RowKit Go.Proofs.AE
variable {G : Nat → AV}
theorem wr_shift {rows : List (List V)} {i : Nat} (hi : i < rows.length) : wrRows rows (rows.drop i) (i + 1) = rows.take (i + 1) ++ rows.drop i := by
  unfold wrRows
  have h : rows.drop (i + 1 + (rows.drop i).length) = [] := List.drop_eq_nil_of_le (by rw [List.length_drop]; omega)
  rw [h, List.append_nil]
theorem wr_ins {rows : List (List V)} {x : List V} {i : Nat} (hi : i < rows.length) : wrRows (rows.take (i + 1) ++ rows.drop i) [x] i = insAt rows i x := by
  unfold wrRows insAt
  have h1 : (rows.take (i + 1)).length = i + 1 := by rw [List.length_take]; omega
  rw [List.take_append_of_le_length (by omega), List.take_take, Nat.min_eq_left (by omega), List.length_singleton, List.drop_left' h1]
  simp
theorem ins_len {rows : List (List V)} {x : List V} {i : Nat} (hi : i ≤ rows.length) : (insAt rows i x).length = rows.length + 1 := by
  unfold insAt
  simp only [List.length_append, List.length_cons, List.length_take, List.length_drop]; omega
theorem wr_fresh {rows : List (List V)} {x z : List V} {i D : Nat} (hi : i < rows.length) (hD : i + D = rows.length + 1) : wrRows (wrRows (rows.take i ++ List.replicate D z) [x] i) (rows.drop i) (i + 1) = insAt rows i x := by
  have h1 : (rows.take i).length = i := by rw [List.length_take]; omega
  have e1 : wrRows (rows.take i ++ List.replicate D z) [x] i = (rows.take i ++ [x]) ++ List.replicate (D - 1) z := by
    have h3 : (rows.take i).drop (i + 1) = [] := List.drop_eq_nil_of_le (by omega)
    unfold wrRows
    rw [List.take_left' h1, List.length_singleton, List.drop_append, h3, h1, show i + 1 - i = 1 by omega, List.nil_append, List.drop_replicate]
  rw [e1]
  have h2 : (rows.take i ++ [x]).length = i + 1 := by rw [List.length_append, h1]; rfl
  have h4 : (rows.take i ++ [x] ++ List.replicate (D - 1) z).drop (i + 1 + (rows.drop i).length) = [] := List.drop_eq_nil_of_le (by rw [List.length_append, h2, List.length_replicate, List.length_drop]; omega)
  unfold wrRows insAt
  rw [List.take_left' h2, h4]
  simp
theorem wr_length {rows new : List (List V)} {i : Nat} (h1 : i ≤ rows.length) (h2 : i + new.length ≤ rows.length) : (wrRows rows new i).length = rows.length := by
  rw [wr_len h1]; omega
theorem ul_one {k : Nat} {x : List V} (h : x.length = k) : UL k [x] := by
  intro r hr
  simp at hr
  subst hr
  exact h
theorem i64_nat {n : Nat} (h : n ≤ 9223372036854775807) : IntKind.i64.wrap (n : Int) = n := IntWalk.i64_in _ (by omega)
theorem ovl_api_Pair : OvlF Try.prog 65 43 := ⟨_, 23, 4, Try.func65, by kernel_rfl, by kernel_rfl, by kernel_rfl, by kernel_rfl, by kernel_rfl⟩
theorem insert_api_Pair (rows : List (List V)) (x : List V) (i : Nat) (hx : x.length = 2) (hi : i ≤ rows.length) (hl : rows.length ≤ 1000000) :
    DetCall Try.prog G 54 0 [some (.arr 43 2 rows), some (.arr 43 2 [x])] [.one (.ar 0), iV i, .one (.ar 1)] (.one (.ar 0)) [some (.arr 43 2 (insAt rows i x))] := by
  refine DetCall.arj (by decide) fun c hc1 hc2 hul => ?_
  have hc3 : c ≤ 9223372036854775807 := hc2
  have hov := ovl_api_Pair
  have hul2 := ul_one hx
  have hul3 := hul.drop i
  have hil := ins_len (x := x) hi
  have e1 : IntKind.i64.wrap ((rows.length : Int) + 1) = (rows.length : Int) + 1 := IntWalk.i64_in _ (by omega)
  have e2 : IntKind.i64.wrap ((i : Int) + 1) = (i : Int) + 1 := IntWalk.i64_in _ (by omega)
  rcases Nat.lt_or_ge i rows.length with h0 | h0
  · have q0 : ((i : Int) == (rows.length : Int)) = false := by simp; omega
    obtain ⟨D, hD⟩ : ∃ D, rows.length + 1 - i = D := ⟨_, rfl⟩
    have m4 : i + D = rows.length + 1 := by omega
    have e3 : IntKind.i64.wrap ((rows.length : Int) + 1 - i) = (D : Int) := by rw [show ((rows.length : Int) + 1 - i) = (D : Int) by omega]; exact i64_nat (by omega)
    have w1 := wr_shift h0
    have w2 := wr_ins (x := x) h0
    have w3 := fun z => wr_fresh (x := x) (z := z) h0 m4
    have t1 : (rows.drop i).take (rows.length - i) = rows.drop i := List.take_of_length_le (by rw [List.length_drop]; omega)
    have t3 : (rows.take (i + 1) ++ rows.drop i).length = rows.length + 1 := by simp; omega
    have t2 : List.take (rows.length + 1) (insAt rows i x) = insAt rows i x := List.take_of_length_le (by omega)
    have t4 : ∀ z, (wrRows (rows.take i ++ List.replicate D z) [x] i).length = rows.length + 1 := fun z => by
      have h1 : (rows.take i ++ List.replicate D z).length = rows.length + 1 := by rw [List.length_append, List.length_take, List.length_replicate]; omega
      rw [wr_length (by omega) (by simp; omega), h1]
    have m1 : min D (rows.length - i) = rows.length - i := by omega
    have m2 : min 1 D = 1 := by omega
    have m5 : min i rows.length + D = rows.length + 1 := by omega
    have n1 : ((i : Int) + (D : Int)) = (rows.length : Int) + 1 := by omega
    by_cases h1 : c < rows.length + 1
    · have q1 : decide ((c : Int) < (rows.length : Int) + 1) = true := by simp; omega
      refine gcallc mixed Try.func54 ac_slices_Insert_api_Pair ?_
      repeat' (first | (with_reducible first | refine Cn (fun h => ?_) fun h => ?_ | refine And.intro ?_ ?_ | refine wR ?_ | exact wr _ _ | refine wa ?_ | apply awp_join) | (intro (c1 : Nat) hq1 hq2) | (with_reducible refine CallZ.z ?_) | simp -dsimp [go_sem, e1, e2, e3, q0, q1, hD, m1, m2, m4, m5, n1, t1, t2, t4, w3, hil, Nat.sub_zero])
      all_goals first | omega | assumption
    · have q1 : decide ((c : Int) < (rows.length : Int) + 1) = false := by simp; omega
      refine gcallc mixed Try.func54 ac_slices_Insert_api_Pair ?_
      repeat' (first | (with_reducible first | refine Cn (fun h => ?_) fun h => ?_ | refine And.intro ?_ ?_ | refine wR ?_ | exact wr _ _ | refine wa ?_ | apply awp_join) | (with_reducible refine CallZ.z ?_) | simp -dsimp [go_sem, e1, e2, e3, q0, q1, hD, m1, m2, m4, m5, n1, t1, t2, t3, w1, w2, hil, Nat.sub_zero])
      all_goals first | omega | assumption
  · have h1 : i = rows.length := by omega
    subst h1
    have w4 : insAt rows rows.length x = rows ++ [x] := by unfold insAt; simp
    refine gcallc mixed Try.func54 ac_slices_Insert_api_Pair ?_
    repeat' (first | (with_reducible first | refine Cn (fun h => ?_) fun h => ?_ | refine And.intro ?_ ?_ | refine wR ?_ | exact wr _ _ | refine wa ?_ | apply awp_join) | (with_reducible refine CallZ.z ?_) | simp -dsimp [go_sem, e1, e2, Nat.sub_zero, w4])
    all_goals first | omega | assumption
theorem ovl_api_Score : OvlF Try.prog 71 65 := ⟨_, 25, 4, Try.func71, by kernel_rfl, by kernel_rfl, by kernel_rfl, by kernel_rfl, by kernel_rfl⟩
theorem insert_api_Score (rows : List (List V)) (x : List V) (i : Nat) (hx : x.length = 2) (hi : i ≤ rows.length) (hl : rows.length ≤ 1000000) :
    DetCall Try.prog G 62 0 [some (.arr 65 2 rows), some (.arr 65 2 [x])] [.one (.ar 0), iV i, .one (.ar 1)] (.one (.ar 0)) [some (.arr 65 2 (insAt rows i x))] := by
  refine DetCall.arj (by decide) fun c hc1 hc2 hul => ?_
  have hc3 : c ≤ 9223372036854775807 := hc2
  have hov := ovl_api_Score
  have hul2 := ul_one hx
  have hul3 := hul.drop i
  have hil := ins_len (x := x) hi
  have e1 : IntKind.i64.wrap ((rows.length : Int) + 1) = (rows.length : Int) + 1 := IntWalk.i64_in _ (by omega)
  have e2 : IntKind.i64.wrap ((i : Int) + 1) = (i : Int) + 1 := IntWalk.i64_in _ (by omega)
  rcases Nat.lt_or_ge i rows.length with h0 | h0
  · have q0 : ((i : Int) == (rows.length : Int)) = false := by simp; omega
    obtain ⟨D, hD⟩ : ∃ D, rows.length + 1 - i = D := ⟨_, rfl⟩
    have m4 : i + D = rows.length + 1 := by omega
    have e3 : IntKind.i64.wrap ((rows.length : Int) + 1 - i) = (D : Int) := by rw [show ((rows.length : Int) + 1 - i) = (D : Int) by omega]; exact i64_nat (by omega)
    have w1 := wr_shift h0
    have w2 := wr_ins (x := x) h0
    have w3 := fun z => wr_fresh (x := x) (z := z) h0 m4
    have t1 : (rows.drop i).take (rows.length - i) = rows.drop i := List.take_of_length_le (by rw [List.length_drop]; omega)
    have t3 : (rows.take (i + 1) ++ rows.drop i).length = rows.length + 1 := by simp; omega
    have t2 : List.take (rows.length + 1) (insAt rows i x) = insAt rows i x := List.take_of_length_le (by omega)
    have t4 : ∀ z, (wrRows (rows.take i ++ List.replicate D z) [x] i).length = rows.length + 1 := fun z => by
      have h1 : (rows.take i ++ List.replicate D z).length = rows.length + 1 := by rw [List.length_append, List.length_take, List.length_replicate]; omega
      rw [wr_length (by omega) (by simp; omega), h1]
    have m1 : min D (rows.length - i) = rows.length - i := by omega
    have m2 : min 1 D = 1 := by omega
    have m5 : min i rows.length + D = rows.length + 1 := by omega
    have n1 : ((i : Int) + (D : Int)) = (rows.length : Int) + 1 := by omega
    by_cases h1 : c < rows.length + 1
    · have q1 : decide ((c : Int) < (rows.length : Int) + 1) = true := by simp; omega
      refine gcallc mixed Try.func62 ac_slices_Insert_api_Score ?_
      repeat' (first | (with_reducible first | refine Cn (fun h => ?_) fun h => ?_ | refine And.intro ?_ ?_ | refine wR ?_ | exact wr _ _ | refine wa ?_ | apply awp_join) | (intro (c1 : Nat) hq1 hq2) | (with_reducible refine CallZ.z ?_) | simp -dsimp [go_sem, e1, e2, e3, q0, q1, hD, m1, m2, m4, m5, n1, t1, t2, t4, w3, hil, Nat.sub_zero])
      all_goals first | omega | assumption
    · have q1 : decide ((c : Int) < (rows.length : Int) + 1) = false := by simp; omega
      refine gcallc mixed Try.func62 ac_slices_Insert_api_Score ?_
      repeat' (first | (with_reducible first | refine Cn (fun h => ?_) fun h => ?_ | refine And.intro ?_ ?_ | refine wR ?_ | exact wr _ _ | refine wa ?_ | apply awp_join) | (with_reducible refine CallZ.z ?_) | simp -dsimp [go_sem, e1, e2, e3, q0, q1, hD, m1, m2, m4, m5, n1, t1, t2, t3, w1, w2, hil, Nat.sub_zero])
      all_goals first | omega | assumption
  · have h1 : i = rows.length := by omega
    subst h1
    have w4 : insAt rows rows.length x = rows ++ [x] := by unfold insAt; simp
    refine gcallc mixed Try.func62 ac_slices_Insert_api_Score ?_
    repeat' (first | (with_reducible first | refine Cn (fun h => ?_) fun h => ?_ | refine And.intro ?_ ?_ | refine wR ?_ | exact wr _ _ | refine wa ?_ | apply awp_join) | (with_reducible refine CallZ.z ?_) | simp -dsimp [go_sem, e1, e2, Nat.sub_zero, w4])
    all_goals first | omega | assumption
theorem ovl_string : OvlF Try.prog 67 9 := ⟨_, 24, 4, Try.func67, by kernel_rfl, by kernel_rfl, by kernel_rfl, by kernel_rfl, by kernel_rfl⟩
theorem insert_string (rows : List (List V)) (x : List V) (i : Nat) (hx : x.length = 1) (hi : i ≤ rows.length) (hl : rows.length ≤ 1000000) :
    DetCall Try.prog G 57 0 [some (.arr 9 1 rows), some (.arr 9 1 [x])] [.one (.ar 0), iV i, .one (.ar 1)] (.one (.ar 0)) [some (.arr 9 1 (insAt rows i x))] := by
  refine DetCall.arj (by decide) fun c hc1 hc2 hul => ?_
  have hc3 : c ≤ 9223372036854775807 := hc2
  have hov := ovl_string
  have hul2 := ul_one hx
  have hul3 := hul.drop i
  have hil := ins_len (x := x) hi
  have e1 : IntKind.i64.wrap ((rows.length : Int) + 1) = (rows.length : Int) + 1 := IntWalk.i64_in _ (by omega)
  have e2 : IntKind.i64.wrap ((i : Int) + 1) = (i : Int) + 1 := IntWalk.i64_in _ (by omega)
  rcases Nat.lt_or_ge i rows.length with h0 | h0
  · have q0 : ((i : Int) == (rows.length : Int)) = false := by simp; omega
    obtain ⟨D, hD⟩ : ∃ D, rows.length + 1 - i = D := ⟨_, rfl⟩
    have m4 : i + D = rows.length + 1 := by omega
    have e3 : IntKind.i64.wrap ((rows.length : Int) + 1 - i) = (D : Int) := by rw [show ((rows.length : Int) + 1 - i) = (D : Int) by omega]; exact i64_nat (by omega)
    have w1 := wr_shift h0
    have w2 := wr_ins (x := x) h0
    have w3 := fun z => wr_fresh (x := x) (z := z) h0 m4
    have t1 : (rows.drop i).take (rows.length - i) = rows.drop i := List.take_of_length_le (by rw [List.length_drop]; omega)
    have t3 : (rows.take (i + 1) ++ rows.drop i).length = rows.length + 1 := by simp; omega
    have t2 : List.take (rows.length + 1) (insAt rows i x) = insAt rows i x := List.take_of_length_le (by omega)
    have t4 : ∀ z, (wrRows (rows.take i ++ List.replicate D z) [x] i).length = rows.length + 1 := fun z => by
      have h1 : (rows.take i ++ List.replicate D z).length = rows.length + 1 := by rw [List.length_append, List.length_take, List.length_replicate]; omega
      rw [wr_length (by omega) (by simp; omega), h1]
    have m1 : min D (rows.length - i) = rows.length - i := by omega
    have m2 : min 1 D = 1 := by omega
    have m5 : min i rows.length + D = rows.length + 1 := by omega
    have n1 : ((i : Int) + (D : Int)) = (rows.length : Int) + 1 := by omega
    by_cases h1 : c < rows.length + 1
    · have q1 : decide ((c : Int) < (rows.length : Int) + 1) = true := by simp; omega
      refine gcallc mixed Try.func57 ac_slices_Insert_string ?_
      repeat' (first | (with_reducible first | refine Cn (fun h => ?_) fun h => ?_ | refine And.intro ?_ ?_ | refine wR ?_ | exact wr _ _ | refine wa ?_ | apply awp_join) | (intro (c1 : Nat) hq1 hq2) | (with_reducible refine CallZ.z ?_) | simp -dsimp [go_sem, e1, e2, e3, q0, q1, hD, m1, m2, m4, m5, n1, t1, t2, t4, w3, hil, Nat.sub_zero])
      all_goals first | omega | assumption
    · have q1 : decide ((c : Int) < (rows.length : Int) + 1) = false := by simp; omega
      refine gcallc mixed Try.func57 ac_slices_Insert_string ?_
      repeat' (first | (with_reducible first | refine Cn (fun h => ?_) fun h => ?_ | refine And.intro ?_ ?_ | refine wR ?_ | exact wr _ _ | refine wa ?_ | apply awp_join) | (with_reducible refine CallZ.z ?_) | simp -dsimp [go_sem, e1, e2, e3, q0, q1, hD, m1, m2, m4, m5, n1, t1, t2, t3, w1, w2, hil, Nat.sub_zero])
      all_goals first | omega | assumption
  · have h1 : i = rows.length := by omega
    subst h1
    have w4 : insAt rows rows.length x = rows ++ [x] := by unfold insAt; simp
    refine gcallc mixed Try.func57 ac_slices_Insert_string ?_
    repeat' (first | (with_reducible first | refine Cn (fun h => ?_) fun h => ?_ | refine And.intro ?_ ?_ | refine wR ?_ | exact wr _ _ | refine wa ?_ | apply awp_join) | (with_reducible refine CallZ.z ?_) | simp -dsimp [go_sem, e1, e2, Nat.sub_zero, w4])
    all_goals first | omega | assumption
theorem wr_del {rows : List (List V)} {i m : Nat} (hi : i < rows.length) (hm : m = rows.length - (i + 1)) : wrRows rows ((rows.drop (i + 1)).take m) i = delAt rows i ++ rows.drop (rows.length - 1) := by
  have h1 : (rows.drop (i + 1)).take m = rows.drop (i + 1) := List.take_of_length_le (by rw [List.length_drop]; omega)
  unfold wrRows delAt
  rw [h1, List.length_drop, show i + (rows.length - (i + 1)) = rows.length - 1 by omega]
theorem del_len {rows : List (List V)} {i : Nat} (hi : i < rows.length) : (delAt rows i).length = rows.length - 1 := by
  unfold delAt
  simp only [List.length_append, List.length_take, List.length_drop]; omega
theorem wr_end {a b z : List (List V)} (h : z.length = b.length) : wrRows (a ++ b) z a.length = a ++ z := by
  unfold wrRows
  rw [List.take_left' rfl, List.drop_append, List.drop_eq_nil_of_le (by omega), List.drop_eq_nil_of_le (by omega)]
  simp
theorem delete_api_Pair (rows : List (List V)) (i : Nat) (hi : i < rows.length) (hl : rows.length ≤ 1000000) :
    DetCall Try.prog G 55 0 [some (.arr 43 2 rows)] [.one (.ar 0), iV i, iV ((i : Int) + 1)] (.one (.ar 0)) [some (.arr 43 2 (delAt rows i))] := by
  refine DetCall.arj (by decide) fun c hc1 hc2 hul => ?_
  have hc3 : c ≤ 9223372036854775807 := hc2
  have q0 : ((i : Int) == (i : Int) + 1) = false := by simp; omega
  obtain ⟨M, hM⟩ : ∃ M, rows.length - (i + 1) = M := ⟨_, rfl⟩
  have m1 : i + M = rows.length - 1 := by omega
  have w1 := wr_del hi hM.symm
  rw [← m1] at w1
  have hdl := del_len hi
  rw [← m1] at hdl
  have hrl : (rows.drop (i + M)).length = 1 := by rw [List.length_drop]; omega
  have m2 : rows.length - (i + M) = 1 := by omega
  have w2 : ∀ z, wrRows (delAt rows i ++ rows.drop (i + M)) [z] (i + M) = delAt rows i ++ [z] := fun z => by rw [← hdl]; exact wr_end (by rw [hdl, hrl]; rfl)
  have m3 : ((i : Int) + (M : Int)).toNat = i + M := by omega
  have t1 : ∀ z, (delAt rows i ++ [z]).take (i + M) = delAt rows i := fun z => List.take_left' hdl
  refine gcallc mixed Try.func55 ac_slices_Delete_api_Pair ?_
  repeat' (first | (with_reducible first | refine Cn (fun h => ?_) fun h => ?_ | refine And.intro ?_ ?_ | refine wR ?_ | exact wr _ _ | refine wa ?_ | apply awp_join) | (with_reducible refine CallZ.z ?_) | simp -dsimp [go_sem, q0, hM, m2, m3, w1, w2, t1, hdl, List.length_append, hrl, List.replicate_one])
  all_goals first | omega | assumption
theorem delete_api_Score (rows : List (List V)) (i : Nat) (hi : i < rows.length) (hl : rows.length ≤ 1000000) :
    DetCall Try.prog G 60 0 [some (.arr 65 2 rows)] [.one (.ar 0), iV i, iV ((i : Int) + 1)] (.one (.ar 0)) [some (.arr 65 2 (delAt rows i))] := by
  refine DetCall.arj (by decide) fun c hc1 hc2 hul => ?_
  have hc3 : c ≤ 9223372036854775807 := hc2
  have q0 : ((i : Int) == (i : Int) + 1) = false := by simp; omega
  obtain ⟨M, hM⟩ : ∃ M, rows.length - (i + 1) = M := ⟨_, rfl⟩
  have m1 : i + M = rows.length - 1 := by omega
  have w1 := wr_del hi hM.symm
  rw [← m1] at w1
  have hdl := del_len hi
  rw [← m1] at hdl
  have hrl : (rows.drop (i + M)).length = 1 := by rw [List.length_drop]; omega
  have m2 : rows.length - (i + M) = 1 := by omega
  have w2 : ∀ z, wrRows (delAt rows i ++ rows.drop (i + M)) [z] (i + M) = delAt rows i ++ [z] := fun z => by rw [← hdl]; exact wr_end (by rw [hdl, hrl]; rfl)
  have m3 : ((i : Int) + (M : Int)).toNat = i + M := by omega
  have t1 : ∀ z, (delAt rows i ++ [z]).take (i + M) = delAt rows i := fun z => List.take_left' hdl
  refine gcallc mixed Try.func60 ac_slices_Delete_api_Score ?_
  repeat' (first | (with_reducible first | refine Cn (fun h => ?_) fun h => ?_ | refine And.intro ?_ ?_ | refine wR ?_ | exact wr _ _ | refine wa ?_ | apply awp_join) | (with_reducible refine CallZ.z ?_) | simp -dsimp [go_sem, q0, hM, m2, m3, w1, w2, t1, hdl, List.length_append, hrl, List.replicate_one])
  all_goals first | omega | assumption
theorem delete_string (rows : List (List V)) (i : Nat) (hi : i < rows.length) (hl : rows.length ≤ 1000000) :
    DetCall Try.prog G 59 0 [some (.arr 9 1 rows)] [.one (.ar 0), iV i, iV ((i : Int) + 1)] (.one (.ar 0)) [some (.arr 9 1 (delAt rows i))] := by
  refine DetCall.arj (by decide) fun c hc1 hc2 hul => ?_
  have hc3 : c ≤ 9223372036854775807 := hc2
  have q0 : ((i : Int) == (i : Int) + 1) = false := by simp; omega
  obtain ⟨M, hM⟩ : ∃ M, rows.length - (i + 1) = M := ⟨_, rfl⟩
  have m1 : i + M = rows.length - 1 := by omega
  have w1 := wr_del hi hM.symm
  rw [← m1] at w1
  have hdl := del_len hi
  rw [← m1] at hdl
  have hrl : (rows.drop (i + M)).length = 1 := by rw [List.length_drop]; omega
  have m2 : rows.length - (i + M) = 1 := by omega
  have w2 : ∀ z, wrRows (delAt rows i ++ rows.drop (i + M)) [z] (i + M) = delAt rows i ++ [z] := fun z => by rw [← hdl]; exact wr_end (by rw [hdl, hrl]; rfl)
  have m3 : ((i : Int) + (M : Int)).toNat = i + M := by omega
  have t1 : ∀ z, (delAt rows i ++ [z]).take (i + M) = delAt rows i := fun z => List.take_left' hdl
  refine gcallc mixed Try.func59 ac_slices_Delete_string ?_
  repeat' (first | (with_reducible first | refine Cn (fun h => ?_) fun h => ?_ | refine And.intro ?_ ?_ | refine wR ?_ | exact wr _ _ | refine wa ?_ | apply awp_join) | (with_reducible refine CallZ.z ?_) | simp -dsimp [go_sem, q0, hM, m2, m3, w1, w2, t1, hdl, List.length_append, hrl, List.replicate_one])
  all_goals first | omega | assumption
end Go.Proofs.Ytcfpphadlgbfdaa
