/- What Do answers where it does something: with a value that is there, with none, and to a command of another kind. -/
import Derived.Test.YtcfpphadlgbfdaaJ10
set_option linter.unusedVariables false
set_option linter.unusedSimpArgs false
set_option maxRecDepth 100000
set_option maxHeartbeats 8000000
namespace Go.Proofs.Ytcfpphadlgbfdaa
open Go Go.RowKit Go.Proofs.AE
variable {G : Nat → AV}
def DoEnd (v : Val) (q : Val × Rep) : Val × Rep × Int := if q.2.code ≠ 0 then (v, q.2, 0) else if 3 ≤ q.1.kind ∧ q.1.els = 0 then (zeroV, q.2, 0) else (q.1, q.2, 0)
theorem DoV_go {v : Val} {c : Cmd} (h : checkV v = 0) (hc : checkC c = 0) (hk : c.kind ≤ 18) (hm : ¬ ((kindOfC c.kind ≠ 0 ∧ kindOfC c.kind ≠ v.kind) ∨ (17 ≤ c.kind ∧ v.kind < 3))) : DoV v c = DoEnd v (doV v c) := by
  have hn := none_kind (kind_ok h).1
  unfold DoV DoEnd
  rw [hn]
  simp only [Bool.false_eq_true, if_false, false_and, true_and]
  rw [if_neg (by rw [h]; simp), if_neg (by rw [hc]; simp), if_neg (by omega), if_neg hm]
theorem DoV_type {v : Val} {c : Cmd} (h : checkV v = 0) (hc : checkC c = 0) (hk : c.kind ≤ 18) (hm : (kindOfC c.kind ≠ 0 ∧ kindOfC c.kind ≠ v.kind) ∨ (17 ≤ c.kind ∧ v.kind < 3)) : DoV v c = (v, failR 4, 0) := by
  have hn := none_kind (kind_ok h).1
  unfold DoV
  rw [hn]
  simp only [Bool.false_eq_true, if_false, false_and, true_and]
  rw [if_neg (by rw [h]; simp), if_neg (by rw [hc]; simp), if_neg (by omega), if_pos hm]
theorem DoEnd_fail {v : Val} {q : Val × Rep} (h : q.2.code ≠ 0) : DoEnd v q = (v, q.2, 0) := by unfold DoEnd; rw [if_pos h]
theorem DoEnd_none {v : Val} {q : Val × Rep} (h : q.2.code = 0) (h2 : 3 ≤ q.1.kind) (h3 : q.1.els = 0) : DoEnd v q = (zeroV, q.2, 0) := by unfold DoEnd; rw [if_neg (by rw [h]; simp), if_pos ⟨h2, h3⟩]
theorem DoEnd_some {v : Val} {q : Val × Rep} (h : q.2.code = 0) (h3 : ¬ (3 ≤ q.1.kind ∧ q.1.els = 0)) : DoEnd v q = (q.1, q.2, 0) := by unfold DoEnd; rw [if_neg (by rw [h]; simp), if_neg h3]
theorem doV_kind {v : Val} {c : Cmd} (h : 4 ≤ c.kind) : (doV v c).1.kind = v.kind := by
  unfold doV
  rw [if_neg (by omega), if_neg (by omega), if_neg (by omega)]
  repeat' split
  all_goals rfl
theorem kind_c (k : Int) (h1 : 1 ≤ k) (h2 : k ≤ 18) : PCall Try.prog G 16 [iV k] (iV (kindOfC k)) ∧ PCall Try.prog G 17 [iV k] (bV (makesC k)) := by
  have : k = 1 ∨ k = 2 ∨ k = 3 ∨ k = 4 ∨ k = 5 ∨ k = 6 ∨ k = 7 ∨ k = 8 ∨ k = 9 ∨ k = 10 ∨ k = 11 ∨ k = 12 ∨ k = 13 ∨ k = 14 ∨ k = 15 ∨ k = 16 ∨ k = 17 ∨ k = 18 := by omega
  rcases this with h | h | h | h | h | h | h | h | h | h | h | h | h | h | h | h | h | h <;> subst h
  · exact ⟨kindOf1_c, makes1_c⟩
  · exact ⟨kindOf2_c, makes2_c⟩
  · exact ⟨kindOf3_c, makes3_c⟩
  · exact ⟨kindOf4_c, makes4_c⟩
  · exact ⟨kindOf5_c, makes5_c⟩
  · exact ⟨kindOf6_c, makes6_c⟩
  · exact ⟨kindOf7_c, makes7_c⟩
  · exact ⟨kindOf8_c, makes8_c⟩
  · exact ⟨kindOf9_c, makes9_c⟩
  · exact ⟨kindOf10_c, makes10_c⟩
  · exact ⟨kindOf11_c, makes11_c⟩
  · exact ⟨kindOf12_c, makes12_c⟩
  · exact ⟨kindOf13_c, makes13_c⟩
  · exact ⟨kindOf14_c, makes14_c⟩
  · exact ⟨kindOf15_c, makes15_c⟩
  · exact ⟨kindOf16_c, makes16_c⟩
  · exact ⟨kindOf17_c, makes17_c⟩
  · exact ⟨kindOf18_c, makes18_c⟩
theorem doGoO_c (v : Val) (c : Cmd) (h4 : 4 ≤ c.kind) (h16 : c.kind ≤ 16) (h3 : 3 ≤ v.kind) (hv : kindOfC c.kind = v.kind) (hs : v.Small) (h : checkV v = 0) (hc : checkC c = 0) (hd : DetCall Try.prog G 19 1 v.own [.one (.ptr 0 0), .agg c.c] (.agg (doV v c).2.c) (doV v c).1.own) :
    PCall Try.prog G 7 [.agg v.c, .agg c.c] (DoA (DoEnd v (doV v c))) := by
  have hcv := checkV_c (G := G) v hs
  rw [h] at hcv
  have hcc := check_c (G := G) c.kind c.key c.field c.text c.n
  change PCall Try.prog G _ _ (iV (checkC c)) at hcc
  rw [hc] at hcc
  obtain ⟨l1, l2, l3⟩ := doV_len v c
  have hkq := doV_kind (v := v) (c := c) h4
  obtain ⟨s1, s2, s3⟩ := hs
  obtain ⟨u1, u2⟩ := kind_c (G := G) c.kind (by omega) (by omega)
  rw [hv] at u1
  obtain ⟨q, hq⟩ : ∃ q, doV v c = q := ⟨_, rfl⟩
  rw [hq] at hd l1 l2 l3 hkq ⊢
  obtain ⟨⟨k2, t2, n2, p2, i2, c2⟩, ⟨rc, rt, rn, rl⟩⟩ := q
  simp only at l1 l2 l3 hkq
  obtain ⟨k, t, n, p, i, s⟩ := v
  simp only at h3 s1 s2 s3 l1 l2 l3 hkq u1
  subst hkq
  obtain ⟨kk, key, f, tx, cn⟩ := c
  simp only at h4 h16 hcc u1 u2
  have o1 := own_g (G := G) k2 n t (pR p) (strRows i) (sR s) (ul_p p) (ul_i i) (ul_s s) (by simp; omega) (by simp; omega) (by simp; omega)
  simp only [Val.own, Val.c, Cmd.c, Rep.c] at hcv hd
  clear h hc hq hv
  have q5 : (k2 == 0) = false := by simp; omega
  have q6 : decide (18 < kk) = false := by simp; omega
  have q7 : decide (17 ≤ kk) = false := by simp; omega
  have q8 : decide (3 ≤ k2) = true := by simpa using h3
  by_cases hrc : rc = 0
  · subst hrc
    have hel := elements_c (G := G) k2 n2 t2 (pR p2) (strRows i2) (sR c2) (by simp; omega)
    simp only [pR, sR, List.length_map] at hel
    by_cases hz : (p2.length : Int) + i2.length + c2.length = 0
    · have o4 := own_c (G := G) 0 0 ⟨#[]⟩ [] [] [] (fun _ h => by simp at h) (fun _ h => by simp at h) (fun _ h => by simp at h) (by simp) (by simp) (by simp)
      have q3 : ((p2.length + i2.length + c2.length : Nat) : Int) = 0 := by omega
      rw [q3] at hel
      rw [DoEnd_none (v := ⟨k2, t, n, p, i, s⟩) (q := (⟨k2, t2, n2, p2, i2, c2⟩, ⟨0, rt, rn, rl⟩)) rfl h3 hz]
      simp only [DoA, Val.c, Cmd.c, Rep.c, zeroV]
      refine pcallc mixed Try.func7 ac_value_Do ?_
      repeat' (first | (with_reducible first | refine Cn (fun h => ?_) fun h => ?_ | refine And.intro ?_ ?_ | refine wR ?_ | exact wr _ _ | refine wa ?_ | apply awp_join | refine q hcv ?_ | refine qd hcv ?_ | refine qz hcv ?_ | refine q hcc ?_ | refine qd hcc ?_ | refine qz hcc ?_ | refine q u1 ?_ | refine qd u1 ?_ | refine qz u1 ?_ | refine q u2 ?_ | refine qd u2 ?_ | refine qz u2 ?_ | refine qg o1 ?_ | refine qgd o1 ?_ | refine qg hd ?_ | refine qgd hd ?_ | refine q o4 ?_ | refine qd o4 ?_ | refine qz o4 ?_ | refine q o4 ?_ | refine qd o4 ?_ | refine qz o4 ?_) | ((with_reducible refine CallZ.b ?_); simp -dsimp [go_sem]; (with_reducible refine PCall.bn (hel) (by with_unfolding_all rfl) (by with_unfolding_all rfl) (by with_unfolding_all rfl) (by with_unfolding_all rfl) ?_)) | (with_reducible refine CallZ.z ?_) | simp -dsimp [go_sem, q5, q6, q7, q8])
    · have o3 := own_c (G := G) k2 n2 t2 (pR p2) (strRows i2) (sR c2) (ul_p p2) (ul_i i2) (ul_s c2) (by simp; omega) (by simp; omega) (by simp; omega)
      obtain ⟨N, hN⟩ : ∃ N : Int, ((p2.length + i2.length + c2.length : Nat) : Int) = N := ⟨_, rfl⟩
      have q3 : (N == 0) = false := by simp; omega
      rw [hN] at hel
      rw [DoEnd_some (v := ⟨k2, t, n, p, i, s⟩) (q := (⟨k2, t2, n2, p2, i2, c2⟩, ⟨0, rt, rn, rl⟩)) rfl (fun h => hz h.2)]
      simp only [DoA, Val.c, Cmd.c, Rep.c]
      refine pcallc mixed Try.func7 ac_value_Do ?_
      repeat' (first | (with_reducible first | refine Cn (fun h => ?_) fun h => ?_ | refine And.intro ?_ ?_ | refine wR ?_ | exact wr _ _ | refine wa ?_ | apply awp_join | refine q hcv ?_ | refine qd hcv ?_ | refine qz hcv ?_ | refine q hcc ?_ | refine qd hcc ?_ | refine qz hcc ?_ | refine q u1 ?_ | refine qd u1 ?_ | refine qz u1 ?_ | refine q u2 ?_ | refine qd u2 ?_ | refine qz u2 ?_ | refine qg o1 ?_ | refine qgd o1 ?_ | refine qg hd ?_ | refine qgd hd ?_ | refine q o3 ?_ | refine qd o3 ?_ | refine qz o3 ?_) | ((with_reducible refine CallZ.b ?_); simp -dsimp [go_sem]; (with_reducible refine PCall.bn (hel) (by with_unfolding_all rfl) (by with_unfolding_all rfl) (by with_unfolding_all rfl) (by with_unfolding_all rfl) ?_)) | (with_reducible refine CallZ.z ?_) | simp -dsimp [go_sem, q3, q5, q6, q7, q8])
  · have o2 := own_c (G := G) k2 n t (pR p) (strRows i) (sR s) (ul_p p) (ul_i i) (ul_s s) (by simp; omega) (by simp; omega) (by simp; omega)
    have q1 : (rc != 0) = true := by simpa using hrc
    rw [DoEnd_fail (v := ⟨k2, t, n, p, i, s⟩) (q := (⟨k2, t2, n2, p2, i2, c2⟩, ⟨rc, rt, rn, rl⟩)) hrc]
    simp only [DoA, Val.c, Cmd.c, Rep.c]
    refine pcallc mixed Try.func7 ac_value_Do ?_
    repeat' (first | (with_reducible first | refine Cn (fun h => ?_) fun h => ?_ | refine And.intro ?_ ?_ | refine wR ?_ | exact wr _ _ | refine wa ?_ | apply awp_join | refine q hcv ?_ | refine qd hcv ?_ | refine qz hcv ?_ | refine q hcc ?_ | refine qd hcc ?_ | refine qz hcc ?_ | refine q u1 ?_ | refine qd u1 ?_ | refine qz u1 ?_ | refine q u2 ?_ | refine qd u2 ?_ | refine qz u2 ?_ | refine qg o1 ?_ | refine qgd o1 ?_ | refine qg hd ?_ | refine qgd hd ?_ | refine q o2 ?_ | refine qd o2 ?_ | refine qz o2 ?_) | (with_reducible refine CallZ.z ?_) | simp -dsimp [go_sem, q1, q5, q6, q7, q8])
/-- .. where nothing of its own is written. -/
theorem doGoP_c (v : Val) (c : Cmd) (h1 : 1 ≤ c.kind) (h18 : c.kind ≤ 18) (hm : ¬ ((kindOfC c.kind ≠ 0 ∧ kindOfC c.kind ≠ v.kind) ∨ (17 ≤ c.kind ∧ v.kind < 3))) (hs : v.Small) (h : checkV v = 0) (hc : checkC c = 0) (hd : DetCall Try.prog G 19 1 v.plain [.one (.ptr 0 0), .agg c.c] (.agg (doV v c).2.c) (doV v c).1.plain) :
    PCall Try.prog G 7 [.agg v.c, .agg c.c] (DoA (DoEnd v (doV v c))) := by
  have hcv := checkV_c (G := G) v hs
  have hk0 := (kind_ok h).1
  rw [h] at hcv
  have hcc := check_c (G := G) c.kind c.key c.field c.text c.n
  change PCall Try.prog G _ _ (iV (checkC c)) at hcc
  rw [hc] at hcc
  obtain ⟨l1, l2, l3⟩ := doV_len v c
  obtain ⟨s1, s2, s3⟩ := hs
  obtain ⟨u1, u2⟩ := kind_c (G := G) c.kind (by omega) (by omega)
  generalize kindOfC c.kind = K at hm u1
  obtain ⟨q, hq⟩ : ∃ q, doV v c = q := ⟨_, rfl⟩
  rw [hq] at hd l1 l2 l3 ⊢
  obtain ⟨⟨k2, t2, n2, p2, i2, c2⟩, ⟨rc, rt, rn, rl⟩⟩ := q
  simp only at l1 l2 l3
  obtain ⟨k, t, n, p, i, s⟩ := v
  simp only at hk0 hm s1 s2 s3 l1 l2 l3
  obtain ⟨kk, key, f, tx, cn⟩ := c
  simp only at h1 h18 hcc hm u1 u2
  have o1 := own_c (G := G) k n t (pR p) (strRows i) (sR s) (ul_p p) (ul_i i) (ul_s s) (by simp; omega) (by simp; omega) (by simp; omega)
  simp only [Val.plain, Val.c, Cmd.c, Rep.c] at hcv hd
  clear h hc hq
  have q5 : (k == 0) = false := by simp; omega
  have q6 : decide (18 < kk) = false := by simp; omega
  have hm1 : K = 0 ∨ K ≠ 0 ∧ K = k := by omega
  have hm2 : kk < 17 ∨ 17 ≤ kk ∧ 3 ≤ k := by omega
  by_cases hrc : rc = 0
  · subst hrc
    have hel := elements_c (G := G) k2 n2 t2 (pR p2) (strRows i2) (sR c2) (by simp; omega)
    simp only [pR, sR, List.length_map] at hel
    by_cases hk3 : 3 ≤ k2
    · have q4 : decide (3 ≤ k2) = true := by simpa using hk3
      by_cases hz : (p2.length : Int) + i2.length + c2.length = 0
      · have o4 := own_c (G := G) 0 0 ⟨#[]⟩ [] [] [] (fun _ h => by simp at h) (fun _ h => by simp at h) (fun _ h => by simp at h) (by simp) (by simp) (by simp)
        have q3 : ((p2.length + i2.length + c2.length : Nat) : Int) = 0 := by omega
        rw [q3] at hel
        rw [DoEnd_none (v := ⟨k, t, n, p, i, s⟩) (q := (⟨k2, t2, n2, p2, i2, c2⟩, ⟨0, rt, rn, rl⟩)) rfl hk3 hz]
        simp only [DoA, Val.c, Cmd.c, Rep.c, zeroV]
        refine pcallc mixed Try.func7 ac_value_Do ?_
        repeat' (first | (with_reducible first | refine Cn (fun h => ?_) fun h => ?_ | refine And.intro ?_ ?_ | refine wR ?_ | exact wr _ _ | refine wa ?_ | apply awp_join | refine q hcv ?_ | refine qd hcv ?_ | refine qz hcv ?_ | refine q hcc ?_ | refine qd hcc ?_ | refine qz hcc ?_ | refine q u1 ?_ | refine qd u1 ?_ | refine qz u1 ?_ | refine q u2 ?_ | refine qd u2 ?_ | refine qz u2 ?_ | refine q o1 ?_ | refine qd o1 ?_ | refine qz o1 ?_ | refine qg hd ?_ | refine qgd hd ?_ | refine q hel ?_ | refine qd hel ?_ | refine qz hel ?_ | refine q o4 ?_ | refine qd o4 ?_ | refine qz o4 ?_ | refine q o4 ?_ | refine qd o4 ?_ | refine qz o4 ?_) | (with_reducible refine CallZ.z ?_) | simp -dsimp [go_sem, q4, q5, q6])
        all_goals (clear hd hcv hcc o1 o4 hel u1 u2; exfalso; simp at *; omega)
      · have o3 := own_c (G := G) k2 n2 t2 (pR p2) (strRows i2) (sR c2) (ul_p p2) (ul_i i2) (ul_s c2) (by simp; omega) (by simp; omega) (by simp; omega)
        obtain ⟨N, hN⟩ : ∃ N : Int, ((p2.length + i2.length + c2.length : Nat) : Int) = N := ⟨_, rfl⟩
        have q3 : (N == 0) = false := by simp; omega
        rw [hN] at hel
        rw [DoEnd_some (v := ⟨k, t, n, p, i, s⟩) (q := (⟨k2, t2, n2, p2, i2, c2⟩, ⟨0, rt, rn, rl⟩)) rfl (fun h => hz h.2)]
        simp only [DoA, Val.c, Cmd.c, Rep.c]
        refine pcallc mixed Try.func7 ac_value_Do ?_
        repeat' (first | (with_reducible first | refine Cn (fun h => ?_) fun h => ?_ | refine And.intro ?_ ?_ | refine wR ?_ | exact wr _ _ | refine wa ?_ | apply awp_join | refine q hcv ?_ | refine qd hcv ?_ | refine qz hcv ?_ | refine q hcc ?_ | refine qd hcc ?_ | refine qz hcc ?_ | refine q u1 ?_ | refine qd u1 ?_ | refine qz u1 ?_ | refine q u2 ?_ | refine qd u2 ?_ | refine qz u2 ?_ | refine q o1 ?_ | refine qd o1 ?_ | refine qz o1 ?_ | refine qg hd ?_ | refine qgd hd ?_ | refine q hel ?_ | refine qd hel ?_ | refine qz hel ?_ | refine q o3 ?_ | refine qd o3 ?_ | refine qz o3 ?_) | (with_reducible refine CallZ.z ?_) | simp -dsimp [go_sem, q3, q4, q5, q6])
        all_goals (clear hd hcv hcc o1 o3 hel u1 u2; exfalso; simp at *; omega)
    · have q4 : decide (3 ≤ k2) = false := by simpa using hk3
      have o3 := own_c (G := G) k2 n2 t2 (pR p2) (strRows i2) (sR c2) (ul_p p2) (ul_i i2) (ul_s c2) (by simp; omega) (by simp; omega) (by simp; omega)
      rw [DoEnd_some (v := ⟨k, t, n, p, i, s⟩) (q := (⟨k2, t2, n2, p2, i2, c2⟩, ⟨0, rt, rn, rl⟩)) rfl (fun h => hk3 h.1)]
      simp only [DoA, Val.c, Cmd.c, Rep.c]
      refine pcallc mixed Try.func7 ac_value_Do ?_
      repeat' (first | (with_reducible first | refine Cn (fun h => ?_) fun h => ?_ | refine And.intro ?_ ?_ | refine wR ?_ | exact wr _ _ | refine wa ?_ | apply awp_join | refine q hcv ?_ | refine qd hcv ?_ | refine qz hcv ?_ | refine q hcc ?_ | refine qd hcc ?_ | refine qz hcc ?_ | refine q u1 ?_ | refine qd u1 ?_ | refine qz u1 ?_ | refine q u2 ?_ | refine qd u2 ?_ | refine qz u2 ?_ | refine q o1 ?_ | refine qd o1 ?_ | refine qz o1 ?_ | refine qg hd ?_ | refine qgd hd ?_ | refine q o3 ?_ | refine qd o3 ?_ | refine qz o3 ?_) | (with_reducible refine CallZ.z ?_) | simp -dsimp [go_sem, q4, q5, q6])
      all_goals (clear hd hcv hcc o1 o3 hel u1 u2; exfalso; simp at *; omega)
  · have q1 : (rc != 0) = true := by simpa using hrc
    rw [DoEnd_fail (v := ⟨k, t, n, p, i, s⟩) (q := (⟨k2, t2, n2, p2, i2, c2⟩, ⟨rc, rt, rn, rl⟩)) hrc]
    simp only [DoA, Val.c, Cmd.c, Rep.c]
    refine pcallc mixed Try.func7 ac_value_Do ?_
    repeat' (first | (with_reducible first | refine Cn (fun h => ?_) fun h => ?_ | refine And.intro ?_ ?_ | refine wR ?_ | exact wr _ _ | refine wa ?_ | apply awp_join | refine q hcv ?_ | refine qd hcv ?_ | refine qz hcv ?_ | refine q hcc ?_ | refine qd hcc ?_ | refine qz hcc ?_ | refine q u1 ?_ | refine qd u1 ?_ | refine qz u1 ?_ | refine q u2 ?_ | refine qd u2 ?_ | refine qz u2 ?_ | refine q o1 ?_ | refine qd o1 ?_ | refine qz o1 ?_ | refine qg hd ?_ | refine qgd hd ?_ | refine q o1 ?_ | refine qd o1 ?_ | refine qz o1 ?_) | (with_reducible refine CallZ.z ?_) | simp -dsimp [go_sem, q1, q5, q6])
    all_goals (clear hd hcv hcc o1 u1 u2; exfalso; simp at *; omega)
end Go.Proofs.Ytcfpphadlgbfdaa
