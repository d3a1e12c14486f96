/- What do answers, where it writes arrays of its own: sets and ranks. -/
import Derived.Test.YtmaiphnabebplaaJ9
set_option linter.unusedVariables false
set_option linter.unusedSimpArgs false
set_option maxRecDepth 100000
set_option maxHeartbeats 8000000
namespace Go.Proofs.Ytmaiphnabebplaa
open Go Go.RowKit Go.Proofs.AE
variable {G : Nat → AV}
theorem do11_c (v : Val) (c : Cmd) (hk : c.kind = 11) (hv : v.kind = 5) (hs : v.Small) (h1 : ∀ (j : Nat) a, v.items[j]? = some a → setAt v.items c.text ≤ j → lessB a c.text = false) : DetCall Try.prog G 39 1 v.own [.one (.ptr 0 0), .agg c.c] (.agg (doV v c).2.c) (doV v c).1.own := by
  obtain ⟨k, t, n, p, l, s⟩ := v
  obtain ⟨s1, s2, s3⟩ := hs
  simp only at hv s1 s2 s3 h1
  subst hv
  have hc := set11_c (G := G) 5 n t l (pR p) (sR s) c hk s2 h1
  obtain ⟨kk, key, f, tx, cn⟩ := c
  simp only at hk
  subst hk
  unfold Val.own doV
  simp only
  generalize setV l ⟨11, key, f, tx, cn⟩ = q at *
  unfold Cmd.c Rep.c at *
  simp only at hc
  refine gcall mixed Try.func39 ok_value_do rs_value_do (by simp [Try.f39]) ?_
  unfold ac_value_do
  repeat' (first | (with_reducible first | refine Cnd.intro (fun h => ?_) (fun h => ?_) | refine And.intro ?_ ?_ | refine Wk.refl ?_ | exact Weak.refl _ _ | refine weak_auto ?_ | apply awp_join) | ((try with_reducible refine CallZ.l ?_); with_reducible refine qcg (hc) ?_; intro zr zq; simp -dsimp [go_sem] at zq; obtain ⟨rfl⟩ := zq; refine ⟨⟨?_, ?_, ?_⟩, ?_⟩; (iterate 3 (focus first | (simp -dsimp [go_sem]; done) | (simp -dsimp [go_sem]; (repeat' apply And.intro) <;> with_unfolding_all rfl))); rintro zr1 zh1 zq1 zq2; (try simp -dsimp [go_sem] at zq1 zq2); obtain ⟨rfl⟩ := zq1; obtain ⟨rfl⟩ := zq2) | (with_reducible refine CallZ.z ?_) | simp -dsimp [go_sem])
theorem do12_c (v : Val) (c : Cmd) (hk : c.kind = 12) (hv : v.kind = 5) (hs : v.Small) (h1 : ∀ (j : Nat) a, v.items[j]? = some a → setAt v.items c.text ≤ j → lessB a c.text = false) : DetCall Try.prog G 39 1 v.own [.one (.ptr 0 0), .agg c.c] (.agg (doV v c).2.c) (doV v c).1.own := by
  obtain ⟨k, t, n, p, l, s⟩ := v
  obtain ⟨s1, s2, s3⟩ := hs
  simp only at hv s1 s2 s3 h1
  subst hv
  have hc := set12_c (G := G) 5 n t l (pR p) (sR s) c hk s2 h1
  obtain ⟨kk, key, f, tx, cn⟩ := c
  simp only at hk
  subst hk
  unfold Val.own doV
  simp only
  generalize setV l ⟨12, key, f, tx, cn⟩ = q at *
  unfold Cmd.c Rep.c at *
  simp only at hc
  refine gcall mixed Try.func39 ok_value_do rs_value_do (by simp [Try.f39]) ?_
  unfold ac_value_do
  repeat' (first | (with_reducible first | refine Cnd.intro (fun h => ?_) (fun h => ?_) | refine And.intro ?_ ?_ | refine Wk.refl ?_ | exact Weak.refl _ _ | refine weak_auto ?_ | apply awp_join) | ((try with_reducible refine CallZ.l ?_); with_reducible refine qcg (hc) ?_; intro zr zq; simp -dsimp [go_sem] at zq; obtain ⟨rfl⟩ := zq; refine ⟨⟨?_, ?_, ?_⟩, ?_⟩; (iterate 3 (focus first | (simp -dsimp [go_sem]; done) | (simp -dsimp [go_sem]; (repeat' apply And.intro) <;> with_unfolding_all rfl))); rintro zr1 zh1 zq1 zq2; (try simp -dsimp [go_sem] at zq1 zq2); obtain ⟨rfl⟩ := zq1; obtain ⟨rfl⟩ := zq2) | (with_reducible refine CallZ.z ?_) | simp -dsimp [go_sem])
theorem do13_c (v : Val) (c : Cmd) (hk : c.kind = 13) (hv : v.kind = 5) (hs : v.Small) (h1 : ∀ (j : Nat) a, v.items[j]? = some a → setAt v.items c.text ≤ j → lessB a c.text = false) : DetCall Try.prog G 39 1 v.own [.one (.ptr 0 0), .agg c.c] (.agg (doV v c).2.c) (doV v c).1.own := by
  obtain ⟨k, t, n, p, l, s⟩ := v
  obtain ⟨s1, s2, s3⟩ := hs
  simp only at hv s1 s2 s3 h1
  subst hv
  have hc := set13_c (G := G) 5 n t l (pR p) (sR s) c hk s2 h1
  obtain ⟨kk, key, f, tx, cn⟩ := c
  simp only at hk
  subst hk
  unfold Val.own doV
  simp only
  generalize setV l ⟨13, key, f, tx, cn⟩ = q at *
  unfold Cmd.c Rep.c at *
  simp only at hc
  refine gcall mixed Try.func39 ok_value_do rs_value_do (by simp [Try.f39]) ?_
  unfold ac_value_do
  repeat' (first | (with_reducible first | refine Cnd.intro (fun h => ?_) (fun h => ?_) | refine And.intro ?_ ?_ | refine Wk.refl ?_ | exact Weak.refl _ _ | refine weak_auto ?_ | apply awp_join) | ((try with_reducible refine CallZ.l ?_); with_reducible refine qcg (hc) ?_; intro zr zq; simp -dsimp [go_sem] at zq; obtain ⟨rfl⟩ := zq; refine ⟨⟨?_, ?_, ?_⟩, ?_⟩; (iterate 3 (focus first | (simp -dsimp [go_sem]; done) | (simp -dsimp [go_sem]; (repeat' apply And.intro) <;> with_unfolding_all rfl))); rintro zr1 zh1 zq1 zq2; (try simp -dsimp [go_sem] at zq1 zq2); obtain ⟨rfl⟩ := zq1; obtain ⟨rfl⟩ := zq2) | (with_reducible refine CallZ.z ?_) | simp -dsimp [go_sem])
theorem do14_c (v : Val) (c : Cmd) (hk : c.kind = 14) (hv : v.kind = 6) (hs : v.Small) (h1 : ∀ (j : Nat) a, (rankCut v.scores c.text)[j]? = some a → rankAt (rankCut v.scores c.text) c.text c.n ≤ j → 0 ≤ bS a (c.text, c.n)) : DetCall Try.prog G 39 1 v.own [.one (.ptr 0 0), .agg c.c] (.agg (doV v c).2.c) (doV v c).1.own := by
  obtain ⟨k, t, n, p, l, s⟩ := v
  obtain ⟨s1, s2, s3⟩ := hs
  simp only at hv s1 s2 s3 h1
  subst hv
  have hc := ranks14_c (G := G) 6 n t s (pR p) (strRows l) c hk s3 h1
  obtain ⟨kk, key, f, tx, cn⟩ := c
  simp only at hk
  subst hk
  unfold Val.own doV
  simp only
  generalize ranksV s ⟨14, key, f, tx, cn⟩ = q at *
  unfold Cmd.c Rep.c at *
  simp only at hc
  refine gcall mixed Try.func39 ok_value_do rs_value_do (by simp [Try.f39]) ?_
  unfold ac_value_do
  repeat' (first | (with_reducible first | refine Cnd.intro (fun h => ?_) (fun h => ?_) | refine And.intro ?_ ?_ | refine Wk.refl ?_ | exact Weak.refl _ _ | refine weak_auto ?_ | apply awp_join) | ((try with_reducible refine CallZ.l ?_); with_reducible refine qcg (hc) ?_; intro zr zq; simp -dsimp [go_sem] at zq; obtain ⟨rfl⟩ := zq; refine ⟨⟨?_, ?_, ?_⟩, ?_⟩; (iterate 3 (focus first | (simp -dsimp [go_sem]; done) | (simp -dsimp [go_sem]; (repeat' apply And.intro) <;> with_unfolding_all rfl))); rintro zr1 zh1 zq1 zq2; (try simp -dsimp [go_sem] at zq1 zq2); obtain ⟨rfl⟩ := zq1; obtain ⟨rfl⟩ := zq2) | (with_reducible refine CallZ.z ?_) | simp -dsimp [go_sem])
theorem do15_c (v : Val) (c : Cmd) (hk : c.kind = 15) (hv : v.kind = 6) (hs : v.Small) (h1 : ∀ (j : Nat) a, (rankCut v.scores c.text)[j]? = some a → rankAt (rankCut v.scores c.text) c.text c.n ≤ j → 0 ≤ bS a (c.text, c.n)) : DetCall Try.prog G 39 1 v.own [.one (.ptr 0 0), .agg c.c] (.agg (doV v c).2.c) (doV v c).1.own := by
  obtain ⟨k, t, n, p, l, s⟩ := v
  obtain ⟨s1, s2, s3⟩ := hs
  simp only at hv s1 s2 s3 h1
  subst hv
  have hc := ranks15_c (G := G) 6 n t s (pR p) (strRows l) c hk s3 h1
  obtain ⟨kk, key, f, tx, cn⟩ := c
  simp only at hk
  subst hk
  unfold Val.own doV
  simp only
  generalize ranksV s ⟨15, key, f, tx, cn⟩ = q at *
  unfold Cmd.c Rep.c at *
  simp only at hc
  refine gcall mixed Try.func39 ok_value_do rs_value_do (by simp [Try.f39]) ?_
  unfold ac_value_do
  repeat' (first | (with_reducible first | refine Cnd.intro (fun h => ?_) (fun h => ?_) | refine And.intro ?_ ?_ | refine Wk.refl ?_ | exact Weak.refl _ _ | refine weak_auto ?_ | apply awp_join) | ((try with_reducible refine CallZ.l ?_); with_reducible refine qcg (hc) ?_; intro zr zq; simp -dsimp [go_sem] at zq; obtain ⟨rfl⟩ := zq; refine ⟨⟨?_, ?_, ?_⟩, ?_⟩; (iterate 3 (focus first | (simp -dsimp [go_sem]; done) | (simp -dsimp [go_sem]; (repeat' apply And.intro) <;> with_unfolding_all rfl))); rintro zr1 zh1 zq1 zq2; (try simp -dsimp [go_sem] at zq1 zq2); obtain ⟨rfl⟩ := zq1; obtain ⟨rfl⟩ := zq2) | (with_reducible refine CallZ.z ?_) | simp -dsimp [go_sem])
theorem do16_c (v : Val) (c : Cmd) (hk : c.kind = 16) (hv : v.kind = 6) (hs : v.Small) (h1 : ∀ (j : Nat) a, (rankCut v.scores c.text)[j]? = some a → rankAt (rankCut v.scores c.text) c.text c.n ≤ j → 0 ≤ bS a (c.text, c.n)) : DetCall Try.prog G 39 1 v.own [.one (.ptr 0 0), .agg c.c] (.agg (doV v c).2.c) (doV v c).1.own := by
  obtain ⟨k, t, n, p, l, s⟩ := v
  obtain ⟨s1, s2, s3⟩ := hs
  simp only at hv s1 s2 s3 h1
  subst hv
  have hc := ranks16_c (G := G) 6 n t s (pR p) (strRows l) c hk s3 h1
  obtain ⟨kk, key, f, tx, cn⟩ := c
  simp only at hk
  subst hk
  unfold Val.own doV
  simp only
  generalize ranksV s ⟨16, key, f, tx, cn⟩ = q at *
  unfold Cmd.c Rep.c at *
  simp only at hc
  refine gcall mixed Try.func39 ok_value_do rs_value_do (by simp [Try.f39]) ?_
  unfold ac_value_do
  repeat' (first | (with_reducible first | refine Cnd.intro (fun h => ?_) (fun h => ?_) | refine And.intro ?_ ?_ | refine Wk.refl ?_ | exact Weak.refl _ _ | refine weak_auto ?_ | apply awp_join) | ((try with_reducible refine CallZ.l ?_); with_reducible refine qcg (hc) ?_; intro zr zq; simp -dsimp [go_sem] at zq; obtain ⟨rfl⟩ := zq; refine ⟨⟨?_, ?_, ?_⟩, ?_⟩; (iterate 3 (focus first | (simp -dsimp [go_sem]; done) | (simp -dsimp [go_sem]; (repeat' apply And.intro) <;> with_unfolding_all rfl))); rintro zr1 zh1 zq1 zq2; (try simp -dsimp [go_sem] at zq1 zq2); obtain ⟨rfl⟩ := zq1; obtain ⟨rfl⟩ := zq2) | (with_reducible refine CallZ.z ?_) | simp -dsimp [go_sem])
end Go.Proofs.Ytmaiphnabebplaa
