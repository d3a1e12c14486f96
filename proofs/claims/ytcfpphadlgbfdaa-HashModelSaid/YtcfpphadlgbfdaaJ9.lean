/- What do answers. -/
import Derived.Test.YtcfpphadlgbfdaaJ8
set_option linter.unusedVariables false
set_option linter.unusedSimpArgs false
set_option maxRecDepth 100000
set_option maxHeartbeats 8000000
namespace Go.Proofs.Ytcfpphadlgbfdaa
open Go Go.RowKit Go.Proofs.AE
variable {G : Nat → AV}
def Val.plain (v : Val) : Hp := plainHp v.kind v.text v.count (pR v.pairs) (strRows v.items) (sR v.scores)
def Val.own (v : Val) : Hp := ownHp v.kind v.text v.count (pR v.pairs) (strRows v.items) (sR v.scores)
/-- What a command that may be makes of a value. -/
def doV (v : Val) (c : Cmd) : Val × Rep :=
  if c.kind = 1 then (⟨1, c.text, 0, [], [], []⟩, toldR 0)
  else if c.kind = 2 then (v, textR v.text)
  else if c.kind = 3 then (if okCount (v.count + c.n) = true then ({ v with count := v.count + c.n }, toldR (v.count + c.n)) else (v, failR 7))
  else if c.kind = 17 then (v, toldR v.els)
  else if c.kind = 18 then (v, ⟨0, ⟨#[]⟩, 0, allV v⟩)
  else if v.kind = 3 then ({ v with pairs := (hashV v.pairs c).1 }, (hashV v.pairs c).2)
  else if v.kind = 4 then ({ v with items := (listV v.items c).1 }, (listV v.items c).2)
  else if v.kind = 5 then ({ v with items := (setV v.items c).1 }, (setV v.items c).2)
  else ({ v with scores := (ranksV v.scores c).1 }, (ranksV v.scores c).2)
theorem do1_c (v : Val) (c : Cmd) (hk : c.kind = 1) (hs : v.Small) : DetCall Try.prog G 19 1 v.plain [.one (.ptr 0 0), .agg c.c] (.agg (doV v c).2.c) (doV v c).1.plain := by
  have hall := all_c (G := G) v hs
  obtain ⟨k, t, n, p, l, s⟩ := v
  obtain ⟨s1, s2, s3⟩ := hs
  obtain ⟨kk, key, f, tx, cn⟩ := c
  simp only at hk s1 s2 s3
  subst hk
  have he := elements_c (G := G) k n t (pR p) (strRows l) (sR s) (by simp; omega)
  unfold Val.c at hall
  simp only at hall
  unfold Val.plain doV
  refine gcallc mixed Try.func19 ac_value_do ?_
  repeat' (first | (with_reducible first | refine Cn (fun h => ?_) fun h => ?_ | refine And.intro ?_ ?_ | refine wR ?_ | exact wr _ _ | refine wa ?_ | apply awp_join | refine q (told_c _) ?_ | refine qd (told_c _) ?_ | refine qz (told_c _) ?_ | refine q he ?_ | refine qd he ?_ | refine qz he ?_ | refine q hall ?_ | refine qd hall ?_ | refine qz hall ?_) | (with_reducible refine CallZ.z ?_) | simp -dsimp [go_sem, Cmd.c, Rep.c, toldR, failR, textR, Val.els])
theorem do2_c (v : Val) (c : Cmd) (hk : c.kind = 2) (hs : v.Small) : DetCall Try.prog G 19 1 v.plain [.one (.ptr 0 0), .agg c.c] (.agg (doV v c).2.c) (doV v c).1.plain := by
  have hall := all_c (G := G) v hs
  obtain ⟨k, t, n, p, l, s⟩ := v
  obtain ⟨s1, s2, s3⟩ := hs
  obtain ⟨kk, key, f, tx, cn⟩ := c
  simp only at hk s1 s2 s3
  subst hk
  have he := elements_c (G := G) k n t (pR p) (strRows l) (sR s) (by simp; omega)
  unfold Val.c at hall
  simp only at hall
  unfold Val.plain doV
  refine gcallc mixed Try.func19 ac_value_do ?_
  repeat' (first | (with_reducible first | refine Cn (fun h => ?_) fun h => ?_ | refine And.intro ?_ ?_ | refine wR ?_ | exact wr _ _ | refine wa ?_ | apply awp_join | refine q (told_c _) ?_ | refine qd (told_c _) ?_ | refine qz (told_c _) ?_ | refine q he ?_ | refine qd he ?_ | refine qz he ?_ | refine q hall ?_ | refine qd hall ?_ | refine qz hall ?_) | (with_reducible refine CallZ.z ?_) | simp -dsimp [go_sem, Cmd.c, Rep.c, toldR, failR, textR, Val.els])
theorem do17_c (v : Val) (c : Cmd) (hk : c.kind = 17) (hs : v.Small) : DetCall Try.prog G 19 1 v.plain [.one (.ptr 0 0), .agg c.c] (.agg (doV v c).2.c) (doV v c).1.plain := by
  have hall := all_c (G := G) v hs
  obtain ⟨k, t, n, p, l, s⟩ := v
  obtain ⟨s1, s2, s3⟩ := hs
  obtain ⟨kk, key, f, tx, cn⟩ := c
  simp only at hk s1 s2 s3
  subst hk
  have he := elements_c (G := G) k n t (pR p) (strRows l) (sR s) (by simp; omega)
  unfold Val.c at hall
  simp only at hall
  unfold Val.plain doV
  refine gcallc mixed Try.func19 ac_value_do ?_
  repeat' (first | (with_reducible first | refine Cn (fun h => ?_) fun h => ?_ | refine And.intro ?_ ?_ | refine wR ?_ | exact wr _ _ | refine wa ?_ | apply awp_join | refine q (told_c _) ?_ | refine qd (told_c _) ?_ | refine qz (told_c _) ?_ | refine q he ?_ | refine qd he ?_ | refine qz he ?_ | refine q hall ?_ | refine qd hall ?_ | refine qz hall ?_) | (with_reducible refine CallZ.z ?_) | simp -dsimp [go_sem, Cmd.c, Rep.c, toldR, failR, textR, Val.els])
theorem do18_c (v : Val) (c : Cmd) (hk : c.kind = 18) (hs : v.Small) : DetCall Try.prog G 19 1 v.plain [.one (.ptr 0 0), .agg c.c] (.agg (doV v c).2.c) (doV v c).1.plain := by
  have hall := all_c (G := G) v hs
  obtain ⟨k, t, n, p, l, s⟩ := v
  obtain ⟨s1, s2, s3⟩ := hs
  obtain ⟨kk, key, f, tx, cn⟩ := c
  simp only at hk s1 s2 s3
  subst hk
  have he := elements_c (G := G) k n t (pR p) (strRows l) (sR s) (by simp; omega)
  unfold Val.c at hall
  simp only at hall
  unfold Val.plain doV
  refine gcallc mixed Try.func19 ac_value_do ?_
  repeat' (first | (with_reducible first | refine Cn (fun h => ?_) fun h => ?_ | refine And.intro ?_ ?_ | refine wR ?_ | exact wr _ _ | refine wa ?_ | apply awp_join | refine q (told_c _) ?_ | refine qd (told_c _) ?_ | refine qz (told_c _) ?_ | refine q he ?_ | refine qd he ?_ | refine qz he ?_ | refine q hall ?_ | refine qd hall ?_ | refine qz hall ?_) | (with_reducible refine CallZ.z ?_) | simp -dsimp [go_sem, Cmd.c, Rep.c, toldR, failR, textR, Val.els])
theorem do3_c (v : Val) (c : Cmd) (hk : c.kind = 3) (h1 : okCount v.count = true) (h2 : okCount c.n = true) : DetCall Try.prog G 19 1 v.plain [.one (.ptr 0 0), .agg c.c] (.agg (doV v c).2.c) (doV v c).1.plain := by
  obtain ⟨k, t, n, p, l, s⟩ := v
  obtain ⟨kk, key, f, tx, cn⟩ := c
  simp only at hk h1 h2
  subst hk
  unfold okCount at h1 h2
  simp at h1 h2
  have w : IntKind.i64.wrap (n + cn) = n + cn := IntWalk.i64_in _ (by omega)
  have hc := count_c (G := G) (n + cn)
  unfold Val.plain doV
  simp only
  cases hq : okCount (n + cn) with
  | true =>
    rw [hq] at hc
    refine gcallc mixed Try.func19 ac_value_do ?_
    repeat' (first | (with_reducible first | refine Cn (fun h => ?_) fun h => ?_ | refine And.intro ?_ ?_ | refine wR ?_ | exact wr _ _ | refine wa ?_ | apply awp_join | refine q (told_c _) ?_ | refine qd (told_c _) ?_ | refine qz (told_c _) ?_ | refine q (failed_c _) ?_ | refine qd (failed_c _) ?_ | refine qz (failed_c _) ?_ | refine q hc ?_ | refine qd hc ?_ | refine qz hc ?_) | (with_reducible refine CallZ.z ?_) | simp -dsimp [go_sem, w, Cmd.c, Rep.c, toldR, failR, textR])
  | false =>
    rw [hq] at hc
    refine gcallc mixed Try.func19 ac_value_do ?_
    repeat' (first | (with_reducible first | refine Cn (fun h => ?_) fun h => ?_ | refine And.intro ?_ ?_ | refine wR ?_ | exact wr _ _ | refine wa ?_ | apply awp_join | refine q (told_c _) ?_ | refine qd (told_c _) ?_ | refine qz (told_c _) ?_ | refine q (failed_c _) ?_ | refine qd (failed_c _) ?_ | refine qz (failed_c _) ?_ | refine q hc ?_ | refine qd hc ?_ | refine qz hc ?_) | (with_reducible refine CallZ.z ?_) | simp -dsimp [go_sem, w, Cmd.c, Rep.c, toldR, failR, textR])
theorem do9_c (v : Val) (c : Cmd) (hk : c.kind = 9) (hv : v.kind = 4) (hs : v.Small) (h0 : 0 < v.items.length) : DetCall Try.prog G 19 1 v.plain [.one (.ptr 0 0), .agg c.c] (.agg (doV v c).2.c) (doV v c).1.plain := by
  obtain ⟨k, t, n, p, l, s⟩ := v
  obtain ⟨s1, s2, s3⟩ := hs
  simp only at hv s1 s2 s3 h0
  subst hv
  have hc := list9_c (G := G) 4 n t l (pR p) (sR s) c hk s2 h0
  obtain ⟨kk, key, f, tx, cn⟩ := c
  simp only at hk
  subst hk
  unfold Val.plain doV
  simp only
  generalize listV l ⟨9, key, f, tx, cn⟩ = q at *
  unfold Cmd.c Rep.c at *
  simp only at hc
  refine gcallc mixed Try.func19 ac_value_do ?_
  repeat' (first | (with_reducible first | refine Cn (fun h => ?_) fun h => ?_ | refine And.intro ?_ ?_ | refine wR ?_ | exact wr _ _ | refine wa ?_ | apply awp_join | refine qg hc ?_ | refine qgd hc ?_) | (with_reducible refine CallZ.z ?_) | simp -dsimp [go_sem])
theorem do10_c (v : Val) (c : Cmd) (hk : c.kind = 10) (hv : v.kind = 4) (hs : v.Small) (h0 : 0 < v.items.length) : DetCall Try.prog G 19 1 v.plain [.one (.ptr 0 0), .agg c.c] (.agg (doV v c).2.c) (doV v c).1.plain := by
  obtain ⟨k, t, n, p, l, s⟩ := v
  obtain ⟨s1, s2, s3⟩ := hs
  simp only at hv s1 s2 s3 h0
  subst hv
  have hc := list10_c (G := G) 4 n t l (pR p) (sR s) c hk s2 h0
  obtain ⟨kk, key, f, tx, cn⟩ := c
  simp only at hk
  subst hk
  unfold Val.plain doV
  simp only
  generalize listV l ⟨10, key, f, tx, cn⟩ = q at *
  unfold Cmd.c Rep.c at *
  simp only at hc
  refine gcallc mixed Try.func19 ac_value_do ?_
  repeat' (first | (with_reducible first | refine Cn (fun h => ?_) fun h => ?_ | refine And.intro ?_ ?_ | refine wR ?_ | exact wr _ _ | refine wa ?_ | apply awp_join | refine qg hc ?_ | refine qgd hc ?_) | (with_reducible refine CallZ.z ?_) | simp -dsimp [go_sem])
end Go.Proofs.Ytcfpphadlgbfdaa
