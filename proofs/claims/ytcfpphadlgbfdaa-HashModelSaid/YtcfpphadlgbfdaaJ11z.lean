/- What Do answers where there is nothing, and to a command of another kind. -/
import Derived.Test.YtcfpphadlgbfdaaJ11
set_option linter.unusedVariables false
set_option linter.unusedSimpArgs false
set_option maxRecDepth 100000
set_option maxHeartbeats 8000000
namespace Go.Proofs.Ytcfpphadlgbfdaa
open Go Go.RowKit Go.Proofs.AE
variable {G : Nat → AV}
theorem zeroV_small : zeroV.Small := ⟨Nat.zero_le _, Nat.zero_le _, Nat.zero_le _⟩
theorem zero_els : PCall Try.prog G 12 [.agg [iC 0, sC ⟨#[]⟩, iC 0, .v (.sl []), .v (.sl []), .v (.sl [])]] (iV 0) := elements_c 0 0 ⟨#[]⟩ [] [] [] (by simp)
theorem zero_own : PCall Try.prog G 15 [.agg [iC 0, sC ⟨#[]⟩, iC 0, .v (.sl []), .v (.sl []), .v (.sl [])]] (.agg [iC 0, sC ⟨#[]⟩, iC 0, .v (.sl []), .v (.sl []), .v (.sl [])]) :=
  own_c 0 0 ⟨#[]⟩ [] [] [] (fun _ h => by simp at h) (fun _ h => by simp at h) (fun _ h => by simp at h) (by simp) (by simp) (by simp)
theorem zero_check : PCall Try.prog G 13 [.agg [iC 0, sC ⟨#[]⟩, iC 0, .v (.sl []), .v (.sl []), .v (.sl [])]] (iV 3) := by
  have := checkV_c (G := G) zeroV zeroV_small
  rwa [check_zero] at this
theorem doZero_c (c : Cmd) (h1 : 1 ≤ c.kind) (h18 : c.kind ≤ 18) (hm : makesC c.kind = false) (hc : checkC c = 0) : PCall Try.prog G 7 [.agg zeroV.c, .agg c.c] (DoA (zeroV, failR 5, 0)) := by
  have hcc := check_c (G := G) c.kind c.key c.field c.text c.n
  change PCall Try.prog G _ _ (iV (checkC c)) at hcc
  rw [hc] at hcc
  have z1 := zero_els (G := G)
  have z2 := zero_own (G := G)
  have z3 := zero_check (G := G)
  obtain ⟨u1, u2⟩ := kind_c (G := G) c.kind h1 h18
  rw [hm] at u2
  have f := failed_c (G := G) 5
  obtain ⟨kk, key, f', tx, cn⟩ := c
  simp only at h18 hcc u1 u2
  clear hc
  have q6 : decide (18 < kk) = false := by simp; omega
  simp only [DoA, Val.c, Cmd.c, Rep.c, zeroV, failR] at f ⊢
  refine pcallc mixed Try.func7 ac_value_Do ?_
  repeat' (first | (with_reducible first | refine Cn (fun h => ?_) fun h => ?_ | refine And.intro ?_ ?_ | refine wR ?_ | exact wr _ _ | refine wa ?_ | apply awp_join | refine q z1 ?_ | refine qd z1 ?_ | refine qz z1 ?_ | refine q z2 ?_ | refine qd z2 ?_ | refine qz z2 ?_ | refine q z3 ?_ | refine qd z3 ?_ | refine qz z3 ?_ | refine q hcc ?_ | refine qd hcc ?_ | refine qz hcc ?_ | refine q u1 ?_ | refine qd u1 ?_ | refine qz u1 ?_ | refine q u2 ?_ | refine qd u2 ?_ | refine qz u2 ?_ | refine q f ?_ | refine qd f ?_ | refine qz f ?_ | refine q z2 ?_ | refine qd z2 ?_ | refine qz z2 ?_) | (with_reducible refine CallZ.z ?_) | simp -dsimp [go_sem, q6])
theorem doMakeO_c (c : Cmd) (h4 : 4 ≤ c.kind) (h16 : c.kind ≤ 16) (hm : makesC c.kind = true) (h3 : 3 ≤ kindOfC c.kind) (hc : checkC c = 0) (hd : DetCall Try.prog G 19 1 (Val.mk (kindOfC c.kind) ⟨#[]⟩ 0 [] [] []).own [.one (.ptr 0 0), .agg c.c] (.agg (doV ⟨kindOfC c.kind, ⟨#[]⟩, 0, [], [], []⟩ c).2.c) (doV ⟨kindOfC c.kind, ⟨#[]⟩, 0, [], [], []⟩ c).1.own) :
    PCall Try.prog G 7 [.agg zeroV.c, .agg c.c] (DoA (DoEnd zeroV (doV ⟨kindOfC c.kind, ⟨#[]⟩, 0, [], [], []⟩ c))) := by
  have hcc := check_c (G := G) c.kind c.key c.field c.text c.n
  change PCall Try.prog G _ _ (iV (checkC c)) at hcc
  rw [hc] at hcc
  have z1 := zero_els (G := G)
  have z2 := zero_own (G := G)
  have z3 := zero_check (G := G)
  obtain ⟨u1, u2⟩ := kind_c (G := G) c.kind (by omega) (by omega)
  rw [hm] at u2
  generalize kindOfC c.kind = K at *
  obtain ⟨l1, l2, l3⟩ := doV_len ⟨K, ⟨#[]⟩, 0, [], [], []⟩ c
  have hkq := doV_kind (v := ⟨K, ⟨#[]⟩, 0, [], [], []⟩) (c := c) (by omega)
  obtain ⟨q, hq⟩ : ∃ q, doV ⟨K, ⟨#[]⟩, 0, [], [], []⟩ c = q := ⟨_, rfl⟩
  rw [hq] at hd l1 l2 l3 hkq ⊢
  obtain ⟨⟨k2, t2, n2, p2, i2, c2⟩, ⟨rc, rt, rn, rl⟩⟩ := q
  simp only [List.length_nil] at l1 l2 l3 hkq
  subst hkq
  obtain ⟨kk, key, f, tx, cn⟩ := c
  simp only at h4 h16 hcc u1 u2
  have o1 := own_g (G := G) 0 0 ⟨#[]⟩ [] [] [] (fun _ h => by simp at h) (fun _ h => by simp at h) (fun _ h => by simp at h) (by simp) (by simp) (by simp)
  simp only [Val.own, Val.c, Cmd.c, Rep.c, List.map_nil] at hd
  clear hc hq
  have q6 : decide (18 < kk) = false := by simp; omega
  have q8 : decide (3 ≤ k2) = true := by simpa using h3
  by_cases hrc : rc = 0
  · subst hrc
    have hel := elements_c (G := G) k2 n2 t2 (pR p2) (strRows i2) (sR c2) (by simp; omega)
    simp only [pR, sR, List.length_map] at hel
    by_cases hz : (p2.length : Int) + i2.length + c2.length = 0
    · have q3 : ((p2.length + i2.length + c2.length : Nat) : Int) = 0 := by omega
      rw [q3] at hel
      rw [DoEnd_none (v := zeroV) (q := (⟨k2, t2, n2, p2, i2, c2⟩, ⟨0, rt, rn, rl⟩)) rfl h3 hz]
      simp only [DoA, Val.c, Cmd.c, Rep.c, zeroV]
      refine pcallc mixed Try.func7 ac_value_Do ?_
      repeat' (first | (with_reducible first | refine Cn (fun h => ?_) fun h => ?_ | refine And.intro ?_ ?_ | refine wR ?_ | exact wr _ _ | refine wa ?_ | apply awp_join | refine q z1 ?_ | refine qd z1 ?_ | refine qz z1 ?_ | refine q z3 ?_ | refine qd z3 ?_ | refine qz z3 ?_ | refine q hcc ?_ | refine qd hcc ?_ | refine qz hcc ?_ | refine q u1 ?_ | refine qd u1 ?_ | refine qz u1 ?_ | refine q u2 ?_ | refine qd u2 ?_ | refine qz u2 ?_ | refine qg o1 ?_ | refine qgd o1 ?_ | refine qg hd ?_ | refine qgd hd ?_ | refine q z2 ?_ | refine qd z2 ?_ | refine qz z2 ?_) | ((with_reducible refine CallZ.b ?_); simp -dsimp [go_sem]; (with_reducible refine PCall.bn (hel) (by with_unfolding_all rfl) (by with_unfolding_all rfl) (by with_unfolding_all rfl) (by with_unfolding_all rfl) ?_)) | (with_reducible refine CallZ.z ?_) | simp -dsimp [go_sem, q6, q8])
    · have o3 := own_c (G := G) k2 n2 t2 (pR p2) (strRows i2) (sR c2) (ul_p p2) (ul_i i2) (ul_s c2) (by simp; omega) (by simp; omega) (by simp; omega)
      obtain ⟨N, hN⟩ : ∃ N : Int, ((p2.length + i2.length + c2.length : Nat) : Int) = N := ⟨_, rfl⟩
      have q3 : (N == 0) = false := by simp; omega
      rw [hN] at hel
      rw [DoEnd_some (v := zeroV) (q := (⟨k2, t2, n2, p2, i2, c2⟩, ⟨0, rt, rn, rl⟩)) rfl (fun h => hz h.2)]
      simp only [DoA, Val.c, Cmd.c, Rep.c, zeroV]
      refine pcallc mixed Try.func7 ac_value_Do ?_
      repeat' (first | (with_reducible first | refine Cn (fun h => ?_) fun h => ?_ | refine And.intro ?_ ?_ | refine wR ?_ | exact wr _ _ | refine wa ?_ | apply awp_join | refine q z1 ?_ | refine qd z1 ?_ | refine qz z1 ?_ | refine q z3 ?_ | refine qd z3 ?_ | refine qz z3 ?_ | refine q hcc ?_ | refine qd hcc ?_ | refine qz hcc ?_ | refine q u1 ?_ | refine qd u1 ?_ | refine qz u1 ?_ | refine q u2 ?_ | refine qd u2 ?_ | refine qz u2 ?_ | refine qg o1 ?_ | refine qgd o1 ?_ | refine qg hd ?_ | refine qgd hd ?_ | refine q o3 ?_ | refine qd o3 ?_ | refine qz o3 ?_) | ((with_reducible refine CallZ.b ?_); simp -dsimp [go_sem]; (with_reducible refine PCall.bn (hel) (by with_unfolding_all rfl) (by with_unfolding_all rfl) (by with_unfolding_all rfl) (by with_unfolding_all rfl) ?_)) | (with_reducible refine CallZ.z ?_) | simp -dsimp [go_sem, q3, q6, q8])
  · have q1 : (rc != 0) = true := by simpa using hrc
    rw [DoEnd_fail (v := zeroV) (q := (⟨k2, t2, n2, p2, i2, c2⟩, ⟨rc, rt, rn, rl⟩)) hrc]
    simp only [DoA, Val.c, Cmd.c, Rep.c, zeroV]
    refine pcallc mixed Try.func7 ac_value_Do ?_
    repeat' (first | (with_reducible first | refine Cn (fun h => ?_) fun h => ?_ | refine And.intro ?_ ?_ | refine wR ?_ | exact wr _ _ | refine wa ?_ | apply awp_join | refine q z1 ?_ | refine qd z1 ?_ | refine qz z1 ?_ | refine q z3 ?_ | refine qd z3 ?_ | refine qz z3 ?_ | refine q hcc ?_ | refine qd hcc ?_ | refine qz hcc ?_ | refine q u1 ?_ | refine qd u1 ?_ | refine qz u1 ?_ | refine q u2 ?_ | refine qd u2 ?_ | refine qz u2 ?_ | refine qg o1 ?_ | refine qgd o1 ?_ | refine qg hd ?_ | refine qgd hd ?_ | refine q z2 ?_ | refine qd z2 ?_ | refine qz z2 ?_) | (with_reducible refine CallZ.z ?_) | simp -dsimp [go_sem, q1, q6, q8])
theorem doMakeP_c (c : Cmd) (hk : c.kind = 1 ∨ c.kind = 3) (hc : checkC c = 0) (hd : DetCall Try.prog G 19 1 (Val.mk (kindOfC c.kind) ⟨#[]⟩ 0 [] [] []).plain [.one (.ptr 0 0), .agg c.c] (.agg (doV ⟨kindOfC c.kind, ⟨#[]⟩, 0, [], [], []⟩ c).2.c) (doV ⟨kindOfC c.kind, ⟨#[]⟩, 0, [], [], []⟩ c).1.plain) :
    PCall Try.prog G 7 [.agg zeroV.c, .agg c.c] (DoA (DoEnd zeroV (doV ⟨kindOfC c.kind, ⟨#[]⟩, 0, [], [], []⟩ c))) := by
  have hcc := check_c (G := G) c.kind c.key c.field c.text c.n
  change PCall Try.prog G _ _ (iV (checkC c)) at hcc
  rw [hc] at hcc
  obtain ⟨u1, u2⟩ := kind_c (G := G) c.kind (by omega) (by omega)
  have hkq : (doV ⟨kindOfC c.kind, ⟨#[]⟩, 0, [], [], []⟩ c).1.kind < 3 := by
    unfold doV
    rcases hk with hk | hk <;> simp [hk, kindOfC] <;> try (split <;> simp)
  have hm : makesC c.kind = true := by rcases hk with hk | hk <;> rw [hk] <;> rfl
  rw [hm] at u2
  generalize kindOfC c.kind = K at *
  obtain ⟨l1, l2, l3⟩ := doV_len ⟨K, ⟨#[]⟩, 0, [], [], []⟩ c
  have z1 := zero_els (G := G)
  have z2 := zero_own (G := G)
  have z3 := zero_check (G := G)
  obtain ⟨q, hq⟩ : ∃ q, doV ⟨K, ⟨#[]⟩, 0, [], [], []⟩ c = q := ⟨_, rfl⟩
  rw [hq] at hd l1 l2 l3 hkq ⊢
  obtain ⟨⟨k2, t2, n2, p2, i2, c2⟩, ⟨rc, rt, rn, rl⟩⟩ := q
  simp only [List.length_nil] at l1 l2 l3 hkq
  obtain ⟨kk, key, f, tx, cn⟩ := c
  simp only at hk hcc u1 u2
  simp only [Val.plain, Val.c, Cmd.c, Rep.c, List.map_nil] at hd
  clear hc hq
  have q6 : decide (18 < kk) = false := by simp; omega
  by_cases hrc : rc = 0
  · subst hrc
    have q4 : decide (3 ≤ k2) = false := by simp; omega
    have o3 := own_c (G := G) k2 n2 t2 (pR p2) (strRows i2) (sR c2) (ul_p p2) (ul_i i2) (ul_s c2) (by simp; omega) (by simp; omega) (by simp; omega)
    rw [DoEnd_some (v := zeroV) (q := (⟨k2, t2, n2, p2, i2, c2⟩, ⟨0, rt, rn, rl⟩)) rfl (fun h => by have := h.1; simp only at this; omega)]
    simp only [DoA, Val.c, Cmd.c, Rep.c, zeroV]
    refine pcallc mixed Try.func7 ac_value_Do ?_
    repeat' (first | (with_reducible first | refine Cn (fun h => ?_) fun h => ?_ | refine And.intro ?_ ?_ | refine wR ?_ | exact wr _ _ | refine wa ?_ | apply awp_join | refine q z1 ?_ | refine qd z1 ?_ | refine qz z1 ?_ | refine q z2 ?_ | refine qd z2 ?_ | refine qz z2 ?_ | refine q z3 ?_ | refine qd z3 ?_ | refine qz z3 ?_ | refine q hcc ?_ | refine qd hcc ?_ | refine qz hcc ?_ | refine q u1 ?_ | refine qd u1 ?_ | refine qz u1 ?_ | refine q u2 ?_ | refine qd u2 ?_ | refine qz u2 ?_ | refine qg hd ?_ | refine qgd hd ?_ | refine q o3 ?_ | refine qd o3 ?_ | refine qz o3 ?_) | (with_reducible refine CallZ.z ?_) | simp -dsimp [go_sem, q4, q6])
  · have q1 : (rc != 0) = true := by simpa using hrc
    rw [DoEnd_fail (v := zeroV) (q := (⟨k2, t2, n2, p2, i2, c2⟩, ⟨rc, rt, rn, rl⟩)) hrc]
    simp only [DoA, Val.c, Cmd.c, Rep.c, zeroV]
    refine pcallc mixed Try.func7 ac_value_Do ?_
    repeat' (first | (with_reducible first | refine Cn (fun h => ?_) fun h => ?_ | refine And.intro ?_ ?_ | refine wR ?_ | exact wr _ _ | refine wa ?_ | apply awp_join | refine q z1 ?_ | refine qd z1 ?_ | refine qz z1 ?_ | refine q z2 ?_ | refine qd z2 ?_ | refine qz z2 ?_ | refine q z3 ?_ | refine qd z3 ?_ | refine qz z3 ?_ | refine q hcc ?_ | refine qd hcc ?_ | refine qz hcc ?_ | refine q u1 ?_ | refine qd u1 ?_ | refine qz u1 ?_ | refine q u2 ?_ | refine qd u2 ?_ | refine qz u2 ?_ | refine qg hd ?_ | refine qgd hd ?_ | refine q z2 ?_ | refine qd z2 ?_ | refine qz z2 ?_) | (with_reducible refine CallZ.z ?_) | simp -dsimp [go_sem, q1, q6])
theorem doType_c (v : Val) (c : Cmd) (h1 : 1 ≤ c.kind) (h18 : c.kind ≤ 18) (hs : v.Small) (h : checkV v = 0) (hc : checkC c = 0) (hm : (kindOfC c.kind ≠ 0 ∧ kindOfC c.kind ≠ v.kind) ∨ (17 ≤ c.kind ∧ v.kind < 3)) : PCall Try.prog G 7 [.agg v.c, .agg c.c] (DoA (v, failR 4, 0)) := by
  have hcv := checkV_c (G := G) v hs
  have hk0 := (kind_ok h).1
  rw [h] at hcv
  have hcc := check_c (G := G) c.kind c.key c.field c.text c.n
  change PCall Try.prog G _ _ (iV (checkC c)) at hcc
  rw [hc] at hcc
  obtain ⟨u1, u2⟩ := kind_c (G := G) c.kind h1 h18
  generalize kindOfC c.kind = K at *
  have f := failed_c (G := G) 4
  obtain ⟨k, t, n, p, i, s⟩ := v
  obtain ⟨s1, s2, s3⟩ := hs
  simp only at hk0 hm s1 s2 s3
  have o1 := own_c (G := G) k n t (pR p) (strRows i) (sR s) (ul_p p) (ul_i i) (ul_s s) (by simp; omega) (by simp; omega) (by simp; omega)
  obtain ⟨kk, key, f', tx, cn⟩ := c
  simp only at h1 h18 hcc hm u1 u2
  clear hc h
  have q5 : (k == 0) = false := by simp; omega
  have q6 : decide (18 < kk) = false := by simp; omega
  simp only [DoA, Val.c, Cmd.c, Rep.c, zeroV, failR] at f hcv ⊢
  refine pcallc mixed Try.func7 ac_value_Do ?_
  repeat' (first | (with_reducible first | refine Cn (fun h => ?_) fun h => ?_ | refine And.intro ?_ ?_ | refine wR ?_ | exact wr _ _ | refine wa ?_ | apply awp_join | refine q hcv ?_ | refine qd hcv ?_ | refine qz hcv ?_ | refine q hcc ?_ | refine qd hcc ?_ | refine qz hcc ?_ | refine q u1 ?_ | refine qd u1 ?_ | refine qz u1 ?_ | refine q u2 ?_ | refine qd u2 ?_ | refine qz u2 ?_ | refine q o1 ?_ | refine qd o1 ?_ | refine qz o1 ?_ | refine q f ?_ | refine qd f ?_ | refine qz f ?_) | (with_reducible refine CallZ.z ?_) | simp -dsimp [go_sem, q5, q6])
  all_goals (clear hcv hcc o1 f u1 u2; exfalso; simp at *; omega)
end Go.Proofs.Ytcfpphadlgbfdaa
