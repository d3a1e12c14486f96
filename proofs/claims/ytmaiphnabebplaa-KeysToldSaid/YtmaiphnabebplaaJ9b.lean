/- What do answers, where it writes arrays of its own. -/
import Derived.Test.YtmaiphnabebplaaJ9
set_option linter.unusedVariables false
set_option linter.unusedSimpArgs false
set_option maxRecDepth 100000
set_option maxHeartbeats 8000000
namespace Go.Proofs.Ytmaiphnabebplaa
open Go Go.RowKit Go.Proofs.AE
variable {G : Nat → AV}
theorem do4_c (v : Val) (c : Cmd) (hk : c.kind = 4) (hv : v.kind = 3) (hs : v.Small) (h1 : ∀ (j : Nat) a, v.pairs[j]? = some a → hashAt v.pairs c.field ≤ j → 0 ≤ cmpB a.1 c.field) : DetCall Try.prog G 39 1 v.own [.one (.ptr 0 0), .agg c.c] (.agg (doV v c).2.c) (doV v c).1.own := by
  obtain ⟨k, t, n, p, l, s⟩ := v
  obtain ⟨s1, s2, s3⟩ := hs
  simp only at hv s1 s2 s3 h1
  subst hv
  have hc := hash4_c (G := G) 3 n t p (strRows l) (sR s) c hk s1 h1
  obtain ⟨kk, key, f, tx, cn⟩ := c
  simp only at hk
  subst hk
  unfold Val.own doV
  simp only
  generalize hashV p ⟨4, key, f, tx, cn⟩ = q at *
  unfold Cmd.c Rep.c at *
  simp only at hc
  refine gcall mixed Try.func39 ok_value_do rs_value_do (by simp [Try.f39]) ?_
  unfold ac_value_do
  repeat' (first | (with_reducible first | refine Cnd.intro (fun h => ?_) (fun h => ?_) | refine And.intro ?_ ?_ | refine Wk.refl ?_ | exact Weak.refl _ _ | refine weak_auto ?_ | apply awp_join) | ((try with_reducible refine CallZ.l ?_); with_reducible refine qcg (hc) ?_; intro zr zq; simp -dsimp [go_sem] at zq; obtain ⟨rfl⟩ := zq; refine ⟨⟨?_, ?_, ?_⟩, ?_⟩; (iterate 3 (focus first | (simp -dsimp [go_sem]; done) | (simp -dsimp [go_sem]; (repeat' apply And.intro) <;> with_unfolding_all rfl))); rintro zr1 zh1 zq1 zq2; (try simp -dsimp [go_sem] at zq1 zq2); obtain ⟨rfl⟩ := zq1; obtain ⟨rfl⟩ := zq2) | (with_reducible refine CallZ.z ?_) | simp -dsimp [go_sem])
theorem do5_c (v : Val) (c : Cmd) (hk : c.kind = 5) (hv : v.kind = 3) (hs : v.Small) (h1 : ∀ (j : Nat) a, v.pairs[j]? = some a → hashAt v.pairs c.field ≤ j → 0 ≤ cmpB a.1 c.field) : DetCall Try.prog G 39 1 v.own [.one (.ptr 0 0), .agg c.c] (.agg (doV v c).2.c) (doV v c).1.own := by
  obtain ⟨k, t, n, p, l, s⟩ := v
  obtain ⟨s1, s2, s3⟩ := hs
  simp only at hv s1 s2 s3 h1
  subst hv
  have hc := hash5_c (G := G) 3 n t p (strRows l) (sR s) c hk s1 h1
  obtain ⟨kk, key, f, tx, cn⟩ := c
  simp only at hk
  subst hk
  unfold Val.own doV
  simp only
  generalize hashV p ⟨5, key, f, tx, cn⟩ = q at *
  unfold Cmd.c Rep.c at *
  simp only at hc
  refine gcall mixed Try.func39 ok_value_do rs_value_do (by simp [Try.f39]) ?_
  unfold ac_value_do
  repeat' (first | (with_reducible first | refine Cnd.intro (fun h => ?_) (fun h => ?_) | refine And.intro ?_ ?_ | refine Wk.refl ?_ | exact Weak.refl _ _ | refine weak_auto ?_ | apply awp_join) | ((try with_reducible refine CallZ.l ?_); with_reducible refine qcg (hc) ?_; intro zr zq; simp -dsimp [go_sem] at zq; obtain ⟨rfl⟩ := zq; refine ⟨⟨?_, ?_, ?_⟩, ?_⟩; (iterate 3 (focus first | (simp -dsimp [go_sem]; done) | (simp -dsimp [go_sem]; (repeat' apply And.intro) <;> with_unfolding_all rfl))); rintro zr1 zh1 zq1 zq2; (try simp -dsimp [go_sem] at zq1 zq2); obtain ⟨rfl⟩ := zq1; obtain ⟨rfl⟩ := zq2) | (with_reducible refine CallZ.z ?_) | simp -dsimp [go_sem])
theorem do6_c (v : Val) (c : Cmd) (hk : c.kind = 6) (hv : v.kind = 3) (hs : v.Small) (h1 : ∀ (j : Nat) a, v.pairs[j]? = some a → hashAt v.pairs c.field ≤ j → 0 ≤ cmpB a.1 c.field) : DetCall Try.prog G 39 1 v.own [.one (.ptr 0 0), .agg c.c] (.agg (doV v c).2.c) (doV v c).1.own := by
  obtain ⟨k, t, n, p, l, s⟩ := v
  obtain ⟨s1, s2, s3⟩ := hs
  simp only at hv s1 s2 s3 h1
  subst hv
  have hc := hash6_c (G := G) 3 n t p (strRows l) (sR s) c hk s1 h1
  obtain ⟨kk, key, f, tx, cn⟩ := c
  simp only at hk
  subst hk
  unfold Val.own doV
  simp only
  generalize hashV p ⟨6, key, f, tx, cn⟩ = q at *
  unfold Cmd.c Rep.c at *
  simp only at hc
  refine gcall mixed Try.func39 ok_value_do rs_value_do (by simp [Try.f39]) ?_
  unfold ac_value_do
  repeat' (first | (with_reducible first | refine Cnd.intro (fun h => ?_) (fun h => ?_) | refine And.intro ?_ ?_ | refine Wk.refl ?_ | exact Weak.refl _ _ | refine weak_auto ?_ | apply awp_join) | ((try with_reducible refine CallZ.l ?_); with_reducible refine qcg (hc) ?_; intro zr zq; simp -dsimp [go_sem] at zq; obtain ⟨rfl⟩ := zq; refine ⟨⟨?_, ?_, ?_⟩, ?_⟩; (iterate 3 (focus first | (simp -dsimp [go_sem]; done) | (simp -dsimp [go_sem]; (repeat' apply And.intro) <;> with_unfolding_all rfl))); rintro zr1 zh1 zq1 zq2; (try simp -dsimp [go_sem] at zq1 zq2); obtain ⟨rfl⟩ := zq1; obtain ⟨rfl⟩ := zq2) | (with_reducible refine CallZ.z ?_) | simp -dsimp [go_sem])
theorem do7_c (v : Val) (c : Cmd) (hk : c.kind = 7) (hv : v.kind = 4) (hs : v.Small) : DetCall Try.prog G 39 1 v.own [.one (.ptr 0 0), .agg c.c] (.agg (doV v c).2.c) (doV v c).1.own := by
  obtain ⟨k, t, n, p, l, s⟩ := v
  obtain ⟨s1, s2, s3⟩ := hs
  simp only at hv s1 s2 s3
  subst hv
  have hc := list7_c (G := G) 4 n t l (pR p) (sR s) c hk s2
  obtain ⟨kk, key, f, tx, cn⟩ := c
  simp only at hk
  subst hk
  unfold Val.own doV
  simp only
  generalize listV l ⟨7, key, f, tx, cn⟩ = q at *
  unfold Cmd.c Rep.c at *
  simp only at hc
  refine gcall mixed Try.func39 ok_value_do rs_value_do (by simp [Try.f39]) ?_
  unfold ac_value_do
  repeat' (first | (with_reducible first | refine Cnd.intro (fun h => ?_) (fun h => ?_) | refine And.intro ?_ ?_ | refine Wk.refl ?_ | exact Weak.refl _ _ | refine weak_auto ?_ | apply awp_join) | ((try with_reducible refine CallZ.l ?_); with_reducible refine qcg (hc) ?_; intro zr zq; simp -dsimp [go_sem] at zq; obtain ⟨rfl⟩ := zq; refine ⟨⟨?_, ?_, ?_⟩, ?_⟩; (iterate 3 (focus first | (simp -dsimp [go_sem]; done) | (simp -dsimp [go_sem]; (repeat' apply And.intro) <;> with_unfolding_all rfl))); rintro zr1 zh1 zq1 zq2; (try simp -dsimp [go_sem] at zq1 zq2); obtain ⟨rfl⟩ := zq1; obtain ⟨rfl⟩ := zq2) | (with_reducible refine CallZ.z ?_) | simp -dsimp [go_sem])
theorem do8_c (v : Val) (c : Cmd) (hk : c.kind = 8) (hv : v.kind = 4) (hs : v.Small) : DetCall Try.prog G 39 1 v.own [.one (.ptr 0 0), .agg c.c] (.agg (doV v c).2.c) (doV v c).1.own := by
  obtain ⟨k, t, n, p, l, s⟩ := v
  obtain ⟨s1, s2, s3⟩ := hs
  simp only at hv s1 s2 s3
  subst hv
  have hc := list8_c (G := G) 4 n t l (pR p) (sR s) c hk s2
  obtain ⟨kk, key, f, tx, cn⟩ := c
  simp only at hk
  subst hk
  unfold Val.own doV
  simp only
  generalize listV l ⟨8, key, f, tx, cn⟩ = q at *
  unfold Cmd.c Rep.c at *
  simp only at hc
  refine gcall mixed Try.func39 ok_value_do rs_value_do (by simp [Try.f39]) ?_
  unfold ac_value_do
  repeat' (first | (with_reducible first | refine Cnd.intro (fun h => ?_) (fun h => ?_) | refine And.intro ?_ ?_ | refine Wk.refl ?_ | exact Weak.refl _ _ | refine weak_auto ?_ | apply awp_join) | ((try with_reducible refine CallZ.l ?_); with_reducible refine qcg (hc) ?_; intro zr zq; simp -dsimp [go_sem] at zq; obtain ⟨rfl⟩ := zq; refine ⟨⟨?_, ?_, ?_⟩, ?_⟩; (iterate 3 (focus first | (simp -dsimp [go_sem]; done) | (simp -dsimp [go_sem]; (repeat' apply And.intro) <;> with_unfolding_all rfl))); rintro zr1 zh1 zq1 zq2; (try simp -dsimp [go_sem] at zq1 zq2); obtain ⟨rfl⟩ := zq1; obtain ⟨rfl⟩ := zq2) | (with_reducible refine CallZ.z ?_) | simp -dsimp [go_sem])
end Go.Proofs.Ytmaiphnabebplaa
