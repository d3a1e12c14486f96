/- What do answers, where it writes arrays of its own. -/
import Derived.Test.YtcfpphadlgbfdaaJ9
set_option linter.unusedVariables false
set_option linter.unusedSimpArgs false
set_option maxRecDepth 100000
set_option maxHeartbeats 8000000
namespace Go.Proofs.Ytcfpphadlgbfdaa
open Go Go.RowKit Go.Proofs.AE
variable {G : Nat → AV}
theorem do4_c (v : Val) (c : Cmd) (hk : c.kind = 4) (hv : v.kind = 3) (hs : v.Small) (h1 : ∀ (j : Nat) a, v.pairs[j]? = some a → hashAt v.pairs c.field ≤ j → 0 ≤ cmpB a.1 c.field) : DetCall Try.prog G 19 1 v.own [.one (.ptr 0 0), .agg c.c] (.agg (doV v c).2.c) (doV v c).1.own := by
  obtain ⟨k, t, n, p, l, s⟩ := v
  obtain ⟨s1, s2, s3⟩ := hs
  simp only at hv s1 s2 s3 h1
  subst hv
  have hc := hash4_c (G := G) 3 n t p (strRows l) (sR s) c hk s1 h1
  obtain ⟨kk, key, f, tx, cn⟩ := c
  simp only at hk
  subst hk
  unfold Val.own doV
  simp only
  generalize hashV p ⟨4, key, f, tx, cn⟩ = q at *
  unfold Cmd.c Rep.c at *
  simp only at hc
  refine gcallc mixed Try.func19 ac_value_do ?_
  repeat' (first | (with_reducible first | refine Cn (fun h => ?_) fun h => ?_ | refine And.intro ?_ ?_ | refine wR ?_ | exact wr _ _ | refine wa ?_ | apply awp_join | refine qg hc ?_ | refine qgd hc ?_) | (with_reducible refine CallZ.z ?_) | simp -dsimp [go_sem])
theorem do5_c (v : Val) (c : Cmd) (hk : c.kind = 5) (hv : v.kind = 3) (hs : v.Small) (h1 : ∀ (j : Nat) a, v.pairs[j]? = some a → hashAt v.pairs c.field ≤ j → 0 ≤ cmpB a.1 c.field) : DetCall Try.prog G 19 1 v.own [.one (.ptr 0 0), .agg c.c] (.agg (doV v c).2.c) (doV v c).1.own := by
  obtain ⟨k, t, n, p, l, s⟩ := v
  obtain ⟨s1, s2, s3⟩ := hs
  simp only at hv s1 s2 s3 h1
  subst hv
  have hc := hash5_c (G := G) 3 n t p (strRows l) (sR s) c hk s1 h1
  obtain ⟨kk, key, f, tx, cn⟩ := c
  simp only at hk
  subst hk
  unfold Val.own doV
  simp only
  generalize hashV p ⟨5, key, f, tx, cn⟩ = q at *
  unfold Cmd.c Rep.c at *
  simp only at hc
  refine gcallc mixed Try.func19 ac_value_do ?_
  repeat' (first | (with_reducible first | refine Cn (fun h => ?_) fun h => ?_ | refine And.intro ?_ ?_ | refine wR ?_ | exact wr _ _ | refine wa ?_ | apply awp_join | refine qg hc ?_ | refine qgd hc ?_) | (with_reducible refine CallZ.z ?_) | simp -dsimp [go_sem])
theorem do6_c (v : Val) (c : Cmd) (hk : c.kind = 6) (hv : v.kind = 3) (hs : v.Small) (h1 : ∀ (j : Nat) a, v.pairs[j]? = some a → hashAt v.pairs c.field ≤ j → 0 ≤ cmpB a.1 c.field) : DetCall Try.prog G 19 1 v.own [.one (.ptr 0 0), .agg c.c] (.agg (doV v c).2.c) (doV v c).1.own := by
  obtain ⟨k, t, n, p, l, s⟩ := v
  obtain ⟨s1, s2, s3⟩ := hs
  simp only at hv s1 s2 s3 h1
  subst hv
  have hc := hash6_c (G := G) 3 n t p (strRows l) (sR s) c hk s1 h1
  obtain ⟨kk, key, f, tx, cn⟩ := c
  simp only at hk
  subst hk
  unfold Val.own doV
  simp only
  generalize hashV p ⟨6, key, f, tx, cn⟩ = q at *
  unfold Cmd.c Rep.c at *
  simp only at hc
  refine gcallc mixed Try.func19 ac_value_do ?_
  repeat' (first | (with_reducible first | refine Cn (fun h => ?_) fun h => ?_ | refine And.intro ?_ ?_ | refine wR ?_ | exact wr _ _ | refine wa ?_ | apply awp_join | refine qg hc ?_ | refine qgd hc ?_) | (with_reducible refine CallZ.z ?_) | simp -dsimp [go_sem])
theorem do7_c (v : Val) (c : Cmd) (hk : c.kind = 7) (hv : v.kind = 4) (hs : v.Small) : DetCall Try.prog G 19 1 v.own [.one (.ptr 0 0), .agg c.c] (.agg (doV v c).2.c) (doV v c).1.own := by
  obtain ⟨k, t, n, p, l, s⟩ := v
  obtain ⟨s1, s2, s3⟩ := hs
  simp only at hv s1 s2 s3
  subst hv
  have hc := list7_c (G := G) 4 n t l (pR p) (sR s) c hk s2
  obtain ⟨kk, key, f, tx, cn⟩ := c
  simp only at hk
  subst hk
  unfold Val.own doV
  simp only
  generalize listV l ⟨7, key, f, tx, cn⟩ = q at *
  unfold Cmd.c Rep.c at *
  simp only at hc
  refine gcallc mixed Try.func19 ac_value_do ?_
  repeat' (first | (with_reducible first | refine Cn (fun h => ?_) fun h => ?_ | refine And.intro ?_ ?_ | refine wR ?_ | exact wr _ _ | refine wa ?_ | apply awp_join | refine qg hc ?_ | refine qgd hc ?_) | (with_reducible refine CallZ.z ?_) | simp -dsimp [go_sem])
theorem do8_c (v : Val) (c : Cmd) (hk : c.kind = 8) (hv : v.kind = 4) (hs : v.Small) : DetCall Try.prog G 19 1 v.own [.one (.ptr 0 0), .agg c.c] (.agg (doV v c).2.c) (doV v c).1.own := by
  obtain ⟨k, t, n, p, l, s⟩ := v
  obtain ⟨s1, s2, s3⟩ := hs
  simp only at hv s1 s2 s3
  subst hv
  have hc := list8_c (G := G) 4 n t l (pR p) (sR s) c hk s2
  obtain ⟨kk, key, f, tx, cn⟩ := c
  simp only at hk
  subst hk
  unfold Val.own doV
  simp only
  generalize listV l ⟨8, key, f, tx, cn⟩ = q at *
  unfold Cmd.c Rep.c at *
  simp only at hc
  refine gcallc mixed Try.func19 ac_value_do ?_
  repeat' (first | (with_reducible first | refine Cn (fun h => ?_) fun h => ?_ | refine And.intro ?_ ?_ | refine wR ?_ | exact wr _ _ | refine wa ?_ | apply awp_join | refine qg hc ?_ | refine qgd hc ?_) | (with_reducible refine CallZ.z ?_) | simp -dsimp [go_sem])
theorem do11_c (v : Val) (c : Cmd) (hk : c.kind = 11) (hv : v.kind = 5) (hs : v.Small) (h1 : ∀ (j : Nat) a, v.items[j]? = some a → setAt v.items c.text ≤ j → lessB a c.text = false) : DetCall Try.prog G 19 1 v.own [.one (.ptr 0 0), .agg c.c] (.agg (doV v c).2.c) (doV v c).1.own := by
  obtain ⟨k, t, n, p, l, s⟩ := v
  obtain ⟨s1, s2, s3⟩ := hs
  simp only at hv s1 s2 s3 h1
  subst hv
  have hc := set11_c (G := G) 5 n t l (pR p) (sR s) c hk s2 h1
  obtain ⟨kk, key, f, tx, cn⟩ := c
  simp only at hk
  subst hk
  unfold Val.own doV
  simp only
  generalize setV l ⟨11, key, f, tx, cn⟩ = q at *
  unfold Cmd.c Rep.c at *
  simp only at hc
  refine gcallc mixed Try.func19 ac_value_do ?_
  repeat' (first | (with_reducible first | refine Cn (fun h => ?_) fun h => ?_ | refine And.intro ?_ ?_ | refine wR ?_ | exact wr _ _ | refine wa ?_ | apply awp_join | refine qg hc ?_ | refine qgd hc ?_) | (with_reducible refine CallZ.z ?_) | simp -dsimp [go_sem])
theorem do12_c (v : Val) (c : Cmd) (hk : c.kind = 12) (hv : v.kind = 5) (hs : v.Small) (h1 : ∀ (j : Nat) a, v.items[j]? = some a → setAt v.items c.text ≤ j → lessB a c.text = false) : DetCall Try.prog G 19 1 v.own [.one (.ptr 0 0), .agg c.c] (.agg (doV v c).2.c) (doV v c).1.own := by
  obtain ⟨k, t, n, p, l, s⟩ := v
  obtain ⟨s1, s2, s3⟩ := hs
  simp only at hv s1 s2 s3 h1
  subst hv
  have hc := set12_c (G := G) 5 n t l (pR p) (sR s) c hk s2 h1
  obtain ⟨kk, key, f, tx, cn⟩ := c
  simp only at hk
  subst hk
  unfold Val.own doV
  simp only
  generalize setV l ⟨12, key, f, tx, cn⟩ = q at *
  unfold Cmd.c Rep.c at *
  simp only at hc
  refine gcallc mixed Try.func19 ac_value_do ?_
  repeat' (first | (with_reducible first | refine Cn (fun h => ?_) fun h => ?_ | refine And.intro ?_ ?_ | refine wR ?_ | exact wr _ _ | refine wa ?_ | apply awp_join | refine qg hc ?_ | refine qgd hc ?_) | (with_reducible refine CallZ.z ?_) | simp -dsimp [go_sem])
theorem do13_c (v : Val) (c : Cmd) (hk : c.kind = 13) (hv : v.kind = 5) (hs : v.Small) (h1 : ∀ (j : Nat) a, v.items[j]? = some a → setAt v.items c.text ≤ j → lessB a c.text = false) : DetCall Try.prog G 19 1 v.own [.one (.ptr 0 0), .agg c.c] (.agg (doV v c).2.c) (doV v c).1.own := by
  obtain ⟨k, t, n, p, l, s⟩ := v
  obtain ⟨s1, s2, s3⟩ := hs
  simp only at hv s1 s2 s3 h1
  subst hv
  have hc := set13_c (G := G) 5 n t l (pR p) (sR s) c hk s2 h1
  obtain ⟨kk, key, f, tx, cn⟩ := c
  simp only at hk
  subst hk
  unfold Val.own doV
  simp only
  generalize setV l ⟨13, key, f, tx, cn⟩ = q at *
  unfold Cmd.c Rep.c at *
  simp only at hc
  refine gcallc mixed Try.func19 ac_value_do ?_
  repeat' (first | (with_reducible first | refine Cn (fun h => ?_) fun h => ?_ | refine And.intro ?_ ?_ | refine wR ?_ | exact wr _ _ | refine wa ?_ | apply awp_join | refine qg hc ?_ | refine qgd hc ?_) | (with_reducible refine CallZ.z ?_) | simp -dsimp [go_sem])
theorem do14_c (v : Val) (c : Cmd) (hk : c.kind = 14) (hv : v.kind = 6) (hs : v.Small) (h1 : ∀ (j : Nat) a, (rankCut v.scores c.text)[j]? = some a → rankAt (rankCut v.scores c.text) c.text c.n ≤ j → 0 ≤ bS a (c.text, c.n)) : DetCall Try.prog G 19 1 v.own [.one (.ptr 0 0), .agg c.c] (.agg (doV v c).2.c) (doV v c).1.own := by
  obtain ⟨k, t, n, p, l, s⟩ := v
  obtain ⟨s1, s2, s3⟩ := hs
  simp only at hv s1 s2 s3 h1
  subst hv
  have hc := ranks14_c (G := G) 6 n t s (pR p) (strRows l) c hk s3 h1
  obtain ⟨kk, key, f, tx, cn⟩ := c
  simp only at hk
  subst hk
  unfold Val.own doV
  simp only
  generalize ranksV s ⟨14, key, f, tx, cn⟩ = q at *
  unfold Cmd.c Rep.c at *
  simp only at hc
  refine gcallc mixed Try.func19 ac_value_do ?_
  repeat' (first | (with_reducible first | refine Cn (fun h => ?_) fun h => ?_ | refine And.intro ?_ ?_ | refine wR ?_ | exact wr _ _ | refine wa ?_ | apply awp_join | refine qg hc ?_ | refine qgd hc ?_) | (with_reducible refine CallZ.z ?_) | simp -dsimp [go_sem])
theorem do15_c (v : Val) (c : Cmd) (hk : c.kind = 15) (hv : v.kind = 6) (hs : v.Small) (h1 : ∀ (j : Nat) a, (rankCut v.scores c.text)[j]? = some a → rankAt (rankCut v.scores c.text) c.text c.n ≤ j → 0 ≤ bS a (c.text, c.n)) : DetCall Try.prog G 19 1 v.own [.one (.ptr 0 0), .agg c.c] (.agg (doV v c).2.c) (doV v c).1.own := by
  obtain ⟨k, t, n, p, l, s⟩ := v
  obtain ⟨s1, s2, s3⟩ := hs
  simp only at hv s1 s2 s3 h1
  subst hv
  have hc := ranks15_c (G := G) 6 n t s (pR p) (strRows l) c hk s3 h1
  obtain ⟨kk, key, f, tx, cn⟩ := c
  simp only at hk
  subst hk
  unfold Val.own doV
  simp only
  generalize ranksV s ⟨15, key, f, tx, cn⟩ = q at *
  unfold Cmd.c Rep.c at *
  simp only at hc
  refine gcallc mixed Try.func19 ac_value_do ?_
  repeat' (first | (with_reducible first | refine Cn (fun h => ?_) fun h => ?_ | refine And.intro ?_ ?_ | refine wR ?_ | exact wr _ _ | refine wa ?_ | apply awp_join | refine qg hc ?_ | refine qgd hc ?_) | (with_reducible refine CallZ.z ?_) | simp -dsimp [go_sem])
theorem do16_c (v : Val) (c : Cmd) (hk : c.kind = 16) (hv : v.kind = 6) (hs : v.Small) (h1 : ∀ (j : Nat) a, (rankCut v.scores c.text)[j]? = some a → rankAt (rankCut v.scores c.text) c.text c.n ≤ j → 0 ≤ bS a (c.text, c.n)) : DetCall Try.prog G 19 1 v.own [.one (.ptr 0 0), .agg c.c] (.agg (doV v c).2.c) (doV v c).1.own := by
  obtain ⟨k, t, n, p, l, s⟩ := v
  obtain ⟨s1, s2, s3⟩ := hs
  simp only at hv s1 s2 s3 h1
  subst hv
  have hc := ranks16_c (G := G) 6 n t s (pR p) (strRows l) c hk s3 h1
  obtain ⟨kk, key, f, tx, cn⟩ := c
  simp only at hk
  subst hk
  unfold Val.own doV
  simp only
  generalize ranksV s ⟨16, key, f, tx, cn⟩ = q at *
  unfold Cmd.c Rep.c at *
  simp only at hc
  refine gcallc mixed Try.func19 ac_value_do ?_
  repeat' (first | (with_reducible first | refine Cn (fun h => ?_) fun h => ?_ | refine And.intro ?_ ?_ | refine wR ?_ | exact wr _ _ | refine wa ?_ | apply awp_join | refine qg hc ?_ | refine qgd hc ?_) | (with_reducible refine CallZ.z ?_) | simp -dsimp [go_sem])
end Go.Proofs.Ytcfpphadlgbfdaa
