/- What Do answers where it refuses. -/
import Derived.Test.YtcfpphadlgbfdaaJ10a
import Derived.Test.YtcfpphadlgbfdaaJ3c
set_option linter.unusedVariables false
set_option linter.unusedSimpArgs false
set_option maxRecDepth 100000
set_option maxHeartbeats 8000000
namespace Go.Proofs.Ytcfpphadlgbfdaa
open Go Go.RowKit Go.Proofs.AE
variable {G : Nat → AV}
def Val.isNone (v : Val) : Bool := (v.kind == 0 && decide (v.text = ⟨#[]⟩)) && v.count == 0 && v.els == 0
def kindOfC (k : Int) : Int := if k = 2 then 1 else if k = 3 then 2 else if 4 ≤ k ∧ k ≤ 6 then 3 else if 7 ≤ k ∧ k ≤ 10 then 4 else if 11 ≤ k ∧ k ≤ 13 then 5 else if 14 ≤ k ∧ k ≤ 16 then 6 else 0
def makesC (k : Int) : Bool := k == 1 || k == 3 || k == 4 || k == 7 || k == 8 || k == 11 || k == 14
def zeroV : Val := ⟨0, ⟨#[]⟩, 0, [], [], []⟩
def checkC (c : Cmd) : Int := checkCommand c.kind c.key c.field c.text c.n
/-- What Do answers. -/
def DoV (v : Val) (c : Cmd) : Val × Rep × Int :=
  if checkV v ≠ 0 ∧ v.isNone = false then (zeroV, toldR 0, checkV v)
  else if checkC c ≠ 0 then (zeroV, toldR 0, checkC c)
  else if 18 < c.kind then (zeroV, toldR 0, 3)
  else if v.isNone = true ∧ makesC c.kind = false then (v, failR 5, 0)
  else if v.isNone = false ∧ ((kindOfC c.kind ≠ 0 ∧ kindOfC c.kind ≠ v.kind) ∨ (17 ≤ c.kind ∧ v.kind < 3)) then (v, failR 4, 0)
  else if (doV (if v.isNone = true then { v with kind := kindOfC c.kind } else v) c).2.code ≠ 0 then (v, (doV (if v.isNone = true then { v with kind := kindOfC c.kind } else v) c).2, 0)
  else if 3 ≤ (doV (if v.isNone = true then { v with kind := kindOfC c.kind } else v) c).1.kind ∧ (doV (if v.isNone = true then { v with kind := kindOfC c.kind } else v) c).1.els = 0 then (zeroV, (doV (if v.isNone = true then { v with kind := kindOfC c.kind } else v) c).2, 0)
  else ((doV (if v.isNone = true then { v with kind := kindOfC c.kind } else v) c).1, (doV (if v.isNone = true then { v with kind := kindOfC c.kind } else v) c).2, 0)
abbrev DoA (q : Val × Rep × Int) : AV := .tup [.agg q.1.c, .agg q.2.1.c, iV q.2.2]
theorem kindOf1_c : PCall Try.prog G 16 [iV 1] (iV (kindOfC 1)) := by
  refine pcallc mixed Try.func16 ac_value_kindOf ?_
  unfold kindOfC
  repeat' (first | (with_reducible first | refine Cn (fun h => ?_) fun h => ?_ | refine And.intro ?_ ?_ | refine wR ?_ | exact wr _ _ | refine wa ?_ | apply awp_join) | (with_reducible refine CallZ.z ?_) | simp -dsimp [go_sem])
theorem makes1_c : PCall Try.prog G 17 [iV 1] (bV (makesC 1)) := by
  refine pcallc mixed Try.func17 ac_value_makes ?_
  unfold makesC
  repeat' (first | (with_reducible first | refine Cn (fun h => ?_) fun h => ?_ | refine And.intro ?_ ?_ | refine wR ?_ | exact wr _ _ | refine wa ?_ | apply awp_join) | (with_reducible refine CallZ.z ?_) | simp -dsimp [go_sem])
theorem kindOf2_c : PCall Try.prog G 16 [iV 2] (iV (kindOfC 2)) := by
  refine pcallc mixed Try.func16 ac_value_kindOf ?_
  unfold kindOfC
  repeat' (first | (with_reducible first | refine Cn (fun h => ?_) fun h => ?_ | refine And.intro ?_ ?_ | refine wR ?_ | exact wr _ _ | refine wa ?_ | apply awp_join) | (with_reducible refine CallZ.z ?_) | simp -dsimp [go_sem])
theorem makes2_c : PCall Try.prog G 17 [iV 2] (bV (makesC 2)) := by
  refine pcallc mixed Try.func17 ac_value_makes ?_
  unfold makesC
  repeat' (first | (with_reducible first | refine Cn (fun h => ?_) fun h => ?_ | refine And.intro ?_ ?_ | refine wR ?_ | exact wr _ _ | refine wa ?_ | apply awp_join) | (with_reducible refine CallZ.z ?_) | simp -dsimp [go_sem])
theorem kindOf3_c : PCall Try.prog G 16 [iV 3] (iV (kindOfC 3)) := by
  refine pcallc mixed Try.func16 ac_value_kindOf ?_
  unfold kindOfC
  repeat' (first | (with_reducible first | refine Cn (fun h => ?_) fun h => ?_ | refine And.intro ?_ ?_ | refine wR ?_ | exact wr _ _ | refine wa ?_ | apply awp_join) | (with_reducible refine CallZ.z ?_) | simp -dsimp [go_sem])
theorem makes3_c : PCall Try.prog G 17 [iV 3] (bV (makesC 3)) := by
  refine pcallc mixed Try.func17 ac_value_makes ?_
  unfold makesC
  repeat' (first | (with_reducible first | refine Cn (fun h => ?_) fun h => ?_ | refine And.intro ?_ ?_ | refine wR ?_ | exact wr _ _ | refine wa ?_ | apply awp_join) | (with_reducible refine CallZ.z ?_) | simp -dsimp [go_sem])
theorem kindOf4_c : PCall Try.prog G 16 [iV 4] (iV (kindOfC 4)) := by
  refine pcallc mixed Try.func16 ac_value_kindOf ?_
  unfold kindOfC
  repeat' (first | (with_reducible first | refine Cn (fun h => ?_) fun h => ?_ | refine And.intro ?_ ?_ | refine wR ?_ | exact wr _ _ | refine wa ?_ | apply awp_join) | (with_reducible refine CallZ.z ?_) | simp -dsimp [go_sem])
theorem makes4_c : PCall Try.prog G 17 [iV 4] (bV (makesC 4)) := by
  refine pcallc mixed Try.func17 ac_value_makes ?_
  unfold makesC
  repeat' (first | (with_reducible first | refine Cn (fun h => ?_) fun h => ?_ | refine And.intro ?_ ?_ | refine wR ?_ | exact wr _ _ | refine wa ?_ | apply awp_join) | (with_reducible refine CallZ.z ?_) | simp -dsimp [go_sem])
theorem kindOf5_c : PCall Try.prog G 16 [iV 5] (iV (kindOfC 5)) := by
  refine pcallc mixed Try.func16 ac_value_kindOf ?_
  unfold kindOfC
  repeat' (first | (with_reducible first | refine Cn (fun h => ?_) fun h => ?_ | refine And.intro ?_ ?_ | refine wR ?_ | exact wr _ _ | refine wa ?_ | apply awp_join) | (with_reducible refine CallZ.z ?_) | simp -dsimp [go_sem])
theorem makes5_c : PCall Try.prog G 17 [iV 5] (bV (makesC 5)) := by
  refine pcallc mixed Try.func17 ac_value_makes ?_
  unfold makesC
  repeat' (first | (with_reducible first | refine Cn (fun h => ?_) fun h => ?_ | refine And.intro ?_ ?_ | refine wR ?_ | exact wr _ _ | refine wa ?_ | apply awp_join) | (with_reducible refine CallZ.z ?_) | simp -dsimp [go_sem])
theorem kindOf6_c : PCall Try.prog G 16 [iV 6] (iV (kindOfC 6)) := by
  refine pcallc mixed Try.func16 ac_value_kindOf ?_
  unfold kindOfC
  repeat' (first | (with_reducible first | refine Cn (fun h => ?_) fun h => ?_ | refine And.intro ?_ ?_ | refine wR ?_ | exact wr _ _ | refine wa ?_ | apply awp_join) | (with_reducible refine CallZ.z ?_) | simp -dsimp [go_sem])
theorem makes6_c : PCall Try.prog G 17 [iV 6] (bV (makesC 6)) := by
  refine pcallc mixed Try.func17 ac_value_makes ?_
  unfold makesC
  repeat' (first | (with_reducible first | refine Cn (fun h => ?_) fun h => ?_ | refine And.intro ?_ ?_ | refine wR ?_ | exact wr _ _ | refine wa ?_ | apply awp_join) | (with_reducible refine CallZ.z ?_) | simp -dsimp [go_sem])
theorem kindOf7_c : PCall Try.prog G 16 [iV 7] (iV (kindOfC 7)) := by
  refine pcallc mixed Try.func16 ac_value_kindOf ?_
  unfold kindOfC
  repeat' (first | (with_reducible first | refine Cn (fun h => ?_) fun h => ?_ | refine And.intro ?_ ?_ | refine wR ?_ | exact wr _ _ | refine wa ?_ | apply awp_join) | (with_reducible refine CallZ.z ?_) | simp -dsimp [go_sem])
theorem makes7_c : PCall Try.prog G 17 [iV 7] (bV (makesC 7)) := by
  refine pcallc mixed Try.func17 ac_value_makes ?_
  unfold makesC
  repeat' (first | (with_reducible first | refine Cn (fun h => ?_) fun h => ?_ | refine And.intro ?_ ?_ | refine wR ?_ | exact wr _ _ | refine wa ?_ | apply awp_join) | (with_reducible refine CallZ.z ?_) | simp -dsimp [go_sem])
theorem kindOf8_c : PCall Try.prog G 16 [iV 8] (iV (kindOfC 8)) := by
  refine pcallc mixed Try.func16 ac_value_kindOf ?_
  unfold kindOfC
  repeat' (first | (with_reducible first | refine Cn (fun h => ?_) fun h => ?_ | refine And.intro ?_ ?_ | refine wR ?_ | exact wr _ _ | refine wa ?_ | apply awp_join) | (with_reducible refine CallZ.z ?_) | simp -dsimp [go_sem])
theorem makes8_c : PCall Try.prog G 17 [iV 8] (bV (makesC 8)) := by
  refine pcallc mixed Try.func17 ac_value_makes ?_
  unfold makesC
  repeat' (first | (with_reducible first | refine Cn (fun h => ?_) fun h => ?_ | refine And.intro ?_ ?_ | refine wR ?_ | exact wr _ _ | refine wa ?_ | apply awp_join) | (with_reducible refine CallZ.z ?_) | simp -dsimp [go_sem])
theorem kindOf9_c : PCall Try.prog G 16 [iV 9] (iV (kindOfC 9)) := by
  refine pcallc mixed Try.func16 ac_value_kindOf ?_
  unfold kindOfC
  repeat' (first | (with_reducible first | refine Cn (fun h => ?_) fun h => ?_ | refine And.intro ?_ ?_ | refine wR ?_ | exact wr _ _ | refine wa ?_ | apply awp_join) | (with_reducible refine CallZ.z ?_) | simp -dsimp [go_sem])
theorem makes9_c : PCall Try.prog G 17 [iV 9] (bV (makesC 9)) := by
  refine pcallc mixed Try.func17 ac_value_makes ?_
  unfold makesC
  repeat' (first | (with_reducible first | refine Cn (fun h => ?_) fun h => ?_ | refine And.intro ?_ ?_ | refine wR ?_ | exact wr _ _ | refine wa ?_ | apply awp_join) | (with_reducible refine CallZ.z ?_) | simp -dsimp [go_sem])
theorem kindOf10_c : PCall Try.prog G 16 [iV 10] (iV (kindOfC 10)) := by
  refine pcallc mixed Try.func16 ac_value_kindOf ?_
  unfold kindOfC
  repeat' (first | (with_reducible first | refine Cn (fun h => ?_) fun h => ?_ | refine And.intro ?_ ?_ | refine wR ?_ | exact wr _ _ | refine wa ?_ | apply awp_join) | (with_reducible refine CallZ.z ?_) | simp -dsimp [go_sem])
theorem makes10_c : PCall Try.prog G 17 [iV 10] (bV (makesC 10)) := by
  refine pcallc mixed Try.func17 ac_value_makes ?_
  unfold makesC
  repeat' (first | (with_reducible first | refine Cn (fun h => ?_) fun h => ?_ | refine And.intro ?_ ?_ | refine wR ?_ | exact wr _ _ | refine wa ?_ | apply awp_join) | (with_reducible refine CallZ.z ?_) | simp -dsimp [go_sem])
theorem kindOf11_c : PCall Try.prog G 16 [iV 11] (iV (kindOfC 11)) := by
  refine pcallc mixed Try.func16 ac_value_kindOf ?_
  unfold kindOfC
  repeat' (first | (with_reducible first | refine Cn (fun h => ?_) fun h => ?_ | refine And.intro ?_ ?_ | refine wR ?_ | exact wr _ _ | refine wa ?_ | apply awp_join) | (with_reducible refine CallZ.z ?_) | simp -dsimp [go_sem])
theorem makes11_c : PCall Try.prog G 17 [iV 11] (bV (makesC 11)) := by
  refine pcallc mixed Try.func17 ac_value_makes ?_
  unfold makesC
  repeat' (first | (with_reducible first | refine Cn (fun h => ?_) fun h => ?_ | refine And.intro ?_ ?_ | refine wR ?_ | exact wr _ _ | refine wa ?_ | apply awp_join) | (with_reducible refine CallZ.z ?_) | simp -dsimp [go_sem])
theorem kindOf12_c : PCall Try.prog G 16 [iV 12] (iV (kindOfC 12)) := by
  refine pcallc mixed Try.func16 ac_value_kindOf ?_
  unfold kindOfC
  repeat' (first | (with_reducible first | refine Cn (fun h => ?_) fun h => ?_ | refine And.intro ?_ ?_ | refine wR ?_ | exact wr _ _ | refine wa ?_ | apply awp_join) | (with_reducible refine CallZ.z ?_) | simp -dsimp [go_sem])
theorem makes12_c : PCall Try.prog G 17 [iV 12] (bV (makesC 12)) := by
  refine pcallc mixed Try.func17 ac_value_makes ?_
  unfold makesC
  repeat' (first | (with_reducible first | refine Cn (fun h => ?_) fun h => ?_ | refine And.intro ?_ ?_ | refine wR ?_ | exact wr _ _ | refine wa ?_ | apply awp_join) | (with_reducible refine CallZ.z ?_) | simp -dsimp [go_sem])
theorem kindOf13_c : PCall Try.prog G 16 [iV 13] (iV (kindOfC 13)) := by
  refine pcallc mixed Try.func16 ac_value_kindOf ?_
  unfold kindOfC
  repeat' (first | (with_reducible first | refine Cn (fun h => ?_) fun h => ?_ | refine And.intro ?_ ?_ | refine wR ?_ | exact wr _ _ | refine wa ?_ | apply awp_join) | (with_reducible refine CallZ.z ?_) | simp -dsimp [go_sem])
theorem makes13_c : PCall Try.prog G 17 [iV 13] (bV (makesC 13)) := by
  refine pcallc mixed Try.func17 ac_value_makes ?_
  unfold makesC
  repeat' (first | (with_reducible first | refine Cn (fun h => ?_) fun h => ?_ | refine And.intro ?_ ?_ | refine wR ?_ | exact wr _ _ | refine wa ?_ | apply awp_join) | (with_reducible refine CallZ.z ?_) | simp -dsimp [go_sem])
theorem kindOf14_c : PCall Try.prog G 16 [iV 14] (iV (kindOfC 14)) := by
  refine pcallc mixed Try.func16 ac_value_kindOf ?_
  unfold kindOfC
  repeat' (first | (with_reducible first | refine Cn (fun h => ?_) fun h => ?_ | refine And.intro ?_ ?_ | refine wR ?_ | exact wr _ _ | refine wa ?_ | apply awp_join) | (with_reducible refine CallZ.z ?_) | simp -dsimp [go_sem])
theorem makes14_c : PCall Try.prog G 17 [iV 14] (bV (makesC 14)) := by
  refine pcallc mixed Try.func17 ac_value_makes ?_
  unfold makesC
  repeat' (first | (with_reducible first | refine Cn (fun h => ?_) fun h => ?_ | refine And.intro ?_ ?_ | refine wR ?_ | exact wr _ _ | refine wa ?_ | apply awp_join) | (with_reducible refine CallZ.z ?_) | simp -dsimp [go_sem])
theorem kindOf15_c : PCall Try.prog G 16 [iV 15] (iV (kindOfC 15)) := by
  refine pcallc mixed Try.func16 ac_value_kindOf ?_
  unfold kindOfC
  repeat' (first | (with_reducible first | refine Cn (fun h => ?_) fun h => ?_ | refine And.intro ?_ ?_ | refine wR ?_ | exact wr _ _ | refine wa ?_ | apply awp_join) | (with_reducible refine CallZ.z ?_) | simp -dsimp [go_sem])
theorem makes15_c : PCall Try.prog G 17 [iV 15] (bV (makesC 15)) := by
  refine pcallc mixed Try.func17 ac_value_makes ?_
  unfold makesC
  repeat' (first | (with_reducible first | refine Cn (fun h => ?_) fun h => ?_ | refine And.intro ?_ ?_ | refine wR ?_ | exact wr _ _ | refine wa ?_ | apply awp_join) | (with_reducible refine CallZ.z ?_) | simp -dsimp [go_sem])
theorem kindOf16_c : PCall Try.prog G 16 [iV 16] (iV (kindOfC 16)) := by
  refine pcallc mixed Try.func16 ac_value_kindOf ?_
  unfold kindOfC
  repeat' (first | (with_reducible first | refine Cn (fun h => ?_) fun h => ?_ | refine And.intro ?_ ?_ | refine wR ?_ | exact wr _ _ | refine wa ?_ | apply awp_join) | (with_reducible refine CallZ.z ?_) | simp -dsimp [go_sem])
theorem makes16_c : PCall Try.prog G 17 [iV 16] (bV (makesC 16)) := by
  refine pcallc mixed Try.func17 ac_value_makes ?_
  unfold makesC
  repeat' (first | (with_reducible first | refine Cn (fun h => ?_) fun h => ?_ | refine And.intro ?_ ?_ | refine wR ?_ | exact wr _ _ | refine wa ?_ | apply awp_join) | (with_reducible refine CallZ.z ?_) | simp -dsimp [go_sem])
theorem kindOf17_c : PCall Try.prog G 16 [iV 17] (iV (kindOfC 17)) := by
  refine pcallc mixed Try.func16 ac_value_kindOf ?_
  unfold kindOfC
  repeat' (first | (with_reducible first | refine Cn (fun h => ?_) fun h => ?_ | refine And.intro ?_ ?_ | refine wR ?_ | exact wr _ _ | refine wa ?_ | apply awp_join) | (with_reducible refine CallZ.z ?_) | simp -dsimp [go_sem])
theorem makes17_c : PCall Try.prog G 17 [iV 17] (bV (makesC 17)) := by
  refine pcallc mixed Try.func17 ac_value_makes ?_
  unfold makesC
  repeat' (first | (with_reducible first | refine Cn (fun h => ?_) fun h => ?_ | refine And.intro ?_ ?_ | refine wR ?_ | exact wr _ _ | refine wa ?_ | apply awp_join) | (with_reducible refine CallZ.z ?_) | simp -dsimp [go_sem])
theorem kindOf18_c : PCall Try.prog G 16 [iV 18] (iV (kindOfC 18)) := by
  refine pcallc mixed Try.func16 ac_value_kindOf ?_
  unfold kindOfC
  repeat' (first | (with_reducible first | refine Cn (fun h => ?_) fun h => ?_ | refine And.intro ?_ ?_ | refine wR ?_ | exact wr _ _ | refine wa ?_ | apply awp_join) | (with_reducible refine CallZ.z ?_) | simp -dsimp [go_sem])
theorem makes18_c : PCall Try.prog G 17 [iV 18] (bV (makesC 18)) := by
  refine pcallc mixed Try.func17 ac_value_makes ?_
  unfold makesC
  repeat' (first | (with_reducible first | refine Cn (fun h => ?_) fun h => ?_ | refine And.intro ?_ ?_ | refine wR ?_ | exact wr _ _ | refine wa ?_ | apply awp_join) | (with_reducible refine CallZ.z ?_) | simp -dsimp [go_sem])
theorem none_zero {v : Val} (h : v.isNone = true) : v = zeroV := by
  obtain ⟨k, t, n, p, l, s⟩ := v
  unfold Val.isNone Val.els at h
  simp at h
  obtain ⟨⟨⟨h1, h2⟩, h3⟩, h4⟩ := h
  have e1 : p = [] := List.eq_nil_of_length_eq_zero (by omega)
  have e2 : l = [] := List.eq_nil_of_length_eq_zero (by omega)
  have e3 : s = [] := List.eq_nil_of_length_eq_zero (by omega)
  subst h1; subst h2; subst h3; subst e1; subst e2; subst e3
  rfl
theorem zero_none : zeroV.isNone = true := by decide
theorem check_zero : checkV zeroV = 3 := by simp [checkV, zeroV]
theorem kind_ok {v : Val} (h : checkV v = 0) : 1 ≤ v.kind ∧ v.kind ≤ 6 := by
  unfold checkV at h
  by_cases h1 : v.kind < 1
  · rw [if_pos h1] at h; cases h
  · by_cases h2 : 6 < v.kind
    · rw [if_neg h1, if_pos h2] at h; cases h
    · omega
theorem none_kind {v : Val} (h : 1 ≤ v.kind) : v.isNone = false := by
  unfold Val.isNone
  have : (v.kind == 0) = false := by simp; omega
  simp [this]
/-- A value that may not be. -/
theorem doBad_c (v : Val) (c : Cmd) (hs : v.Small) (h : checkV v ≠ 0) (hn : v.isNone = false) : PCall Try.prog G 7 [.agg v.c, .agg c.c] (DoA (zeroV, toldR 0, checkV v)) := by
  have hc := checkV_c (G := G) v hs
  obtain ⟨e, he⟩ : ∃ e, checkV v = e := ⟨_, rfl⟩
  rw [he] at h hc ⊢
  obtain ⟨k, t, n, p, l, s⟩ := v
  obtain ⟨s1, s2, s3⟩ := hs
  simp only at s1 s2 s3
  have hel := elements_c (G := G) k n t (pR p) (strRows l) (sR s) (by simp; omega)
  have hq : (e == 0) = false := by simpa using h
  have hq2 : (e != 0) = true := by simpa using h
  unfold Val.isNone Val.els at hn
  simp only [pR, sR, List.length_map] at hel
  simp only [DoA, Val.c, Cmd.c, Rep.c, toldR, zeroV] at hn hc ⊢
  refine pcallc mixed Try.func7 ac_value_Do ?_
  repeat' (first | (with_reducible first | refine Cn (fun h => ?_) fun h => ?_ | refine And.intro ?_ ?_ | refine wR ?_ | exact wr _ _ | refine wa ?_ | apply awp_join | refine q hel ?_ | refine qd hel ?_ | refine qz hel ?_ | refine q hc ?_ | refine qd hc ?_ | refine qz hc ?_) | (with_reducible refine CallZ.z ?_) | simp -dsimp [go_sem, hq, hq2])
  all_goals (exfalso; clear hel hc; simp at *; simp_all)
  all_goals omega
/-- A command that may not be. -/
theorem doC_c (v : Val) (c : Cmd) (hs : v.Small) (h : checkV v = 0 ∨ v.isNone = true) (hc : checkC c ≠ 0) : PCall Try.prog G 7 [.agg v.c, .agg c.c] (DoA (zeroV, toldR 0, checkC c)) := by
  have hv := checkV_c (G := G) v hs
  have hk := check_c (G := G) c.kind c.key c.field c.text c.n
  change PCall Try.prog G _ _ (iV (checkC c)) at hk
  generalize checkC c = e at *
  obtain ⟨kk, key, f, tx, cn⟩ := c
  have hq : (e == 0) = false := by simpa using hc
  have hq2 : (e != 0) = true := by simpa using hc
  rcases h with h | h
  · have hk' := (kind_ok h).1
    rw [h] at hv
    obtain ⟨k, t, n, p, l, s⟩ := v
    simp only at hk'
    have hk0 : (k == 0) = false := by simp; omega
    simp only [DoA, Val.c, Cmd.c, Rep.c, toldR, zeroV] at hk hv ⊢
    refine pcallc mixed Try.func7 ac_value_Do ?_
    repeat' (first | (with_reducible first | refine Cn (fun h => ?_) fun h => ?_ | refine And.intro ?_ ?_ | refine wR ?_ | exact wr _ _ | refine wa ?_ | apply awp_join | refine q hv ?_ | refine qd hv ?_ | refine qz hv ?_ | refine q hk ?_ | refine qd hk ?_ | refine qz hk ?_) | (with_reducible refine CallZ.z ?_) | simp -dsimp [go_sem, hq, hq2, hk0])
  · have := none_zero h
    subst this
    rw [check_zero] at hv
    have hel := elements_c (G := G) 0 0 ⟨#[]⟩ [] [] [] (by simp)
    simp only [DoA, Val.c, Cmd.c, Rep.c, toldR, zeroV] at hk hv ⊢
    refine pcallc mixed Try.func7 ac_value_Do ?_
    repeat' (first | (with_reducible first | refine Cn (fun h => ?_) fun h => ?_ | refine And.intro ?_ ?_ | refine wR ?_ | exact wr _ _ | refine wa ?_ | apply awp_join | refine q hel ?_ | refine qd hel ?_ | refine qz hel ?_ | refine q hv ?_ | refine qd hv ?_ | refine qz hv ?_ | refine q hk ?_ | refine qd hk ?_ | refine qz hk ?_) | (with_reducible refine CallZ.z ?_) | simp -dsimp [go_sem, hq, hq2])
/-- A command of a store's. -/
theorem doBig_c (v : Val) (c : Cmd) (hs : v.Small) (h : checkV v = 0 ∨ v.isNone = true) (hc : checkC c = 0) (hb : 18 < c.kind) : PCall Try.prog G 7 [.agg v.c, .agg c.c] (DoA (zeroV, toldR 0, 3)) := by
  have hv := checkV_c (G := G) v hs
  have hk := check_c (G := G) c.kind c.key c.field c.text c.n
  change PCall Try.prog G _ _ (iV (checkC c)) at hk
  rw [hc] at hk
  obtain ⟨kk, key, f, tx, cn⟩ := c
  simp only at hb
  have hq : decide (18 < kk) = true := by simpa using hb
  rcases h with h | h
  · have hk' := (kind_ok h).1
    rw [h] at hv
    obtain ⟨k, t, n, p, l, s⟩ := v
    simp only at hk'
    have hk0 : (k == 0) = false := by simp; omega
    simp only [DoA, Val.c, Cmd.c, Rep.c, toldR, zeroV] at hk hv ⊢
    refine pcallc mixed Try.func7 ac_value_Do ?_
    repeat' (first | (with_reducible first | refine Cn (fun h => ?_) fun h => ?_ | refine And.intro ?_ ?_ | refine wR ?_ | exact wr _ _ | refine wa ?_ | apply awp_join | refine q hv ?_ | refine qd hv ?_ | refine qz hv ?_ | refine q hk ?_ | refine qd hk ?_ | refine qz hk ?_) | (with_reducible refine CallZ.z ?_) | simp -dsimp [go_sem, hq, hk0])
  · have := none_zero h
    subst this
    rw [check_zero] at hv
    have hel := elements_c (G := G) 0 0 ⟨#[]⟩ [] [] [] (by simp)
    simp only [DoA, Val.c, Cmd.c, Rep.c, toldR, zeroV] at hk hv ⊢
    refine pcallc mixed Try.func7 ac_value_Do ?_
    repeat' (first | (with_reducible first | refine Cn (fun h => ?_) fun h => ?_ | refine And.intro ?_ ?_ | refine wR ?_ | exact wr _ _ | refine wa ?_ | apply awp_join | refine q hel ?_ | refine qd hel ?_ | refine qz hel ?_ | refine q hv ?_ | refine qd hv ?_ | refine qz hv ?_ | refine q hk ?_ | refine qd hk ?_ | refine qz hk ?_) | (with_reducible refine CallZ.z ?_) | simp -dsimp [go_sem, hq])
end Go.Proofs.Ytcfpphadlgbfdaa
