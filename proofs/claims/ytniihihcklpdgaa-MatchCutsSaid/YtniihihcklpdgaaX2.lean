/- The functions MatchSame, MatchNot, MatchCuts, MatchBad answer true. -/
import Derived.Test.YtniihihcklpdgaaX1
set_option linter.unusedVariables false
set_option linter.unusedSimpArgs false
set_option maxRecDepth 100000
set_option maxHeartbeats 8000000
namespace Go.Proofs.Ytniihihcklpdgaa
open Go Go.RowKit Go.Proofs.AE
variable {G : Nat → AV}
/-- A match that fits behind a place that is there, and has nothing new. -/
theorem matchNone_c {base bt : Int} {x : List Item} {k : Nat} {its : List Item} (h : checkLog base bt x = 0) (hk : k ≤ x.length) (h2 : checkLog (base + k) (endT bt (x.take k)) its = 0) (hn : firstNew x k its 0 = none) :
    PCall Try.prog G 25 [.agg (logC base bt x), iV (base + k), iV (endT bt (x.take k)), rowsV its] (matchV base bt x true 0 0) := by
  have hc := matchGo_c (G := G) base bt x (base + k) (endT bt (x.take k)) its its (base + k) k h h2 (.inr ⟨by omega, rfl, by omega, rfl, termErr_ok (by omega), termAt_take hk⟩)
  unfold matchGo at hc
  rw [hn] at hc
  exact hc
theorem matchSome_c {base bt : Int} {x : List Item} {k : Nat} {its : List Item} {i : Nat} (h : checkLog base bt x = 0) (hk : k ≤ x.length) (h2 : checkLog (base + k) (endT bt (x.take k)) its = 0) (hn : firstNew x k its 0 = some i) (h3 : checkLog base bt (x.take (k + i) ++ its.drop i) = 0) :
    PCall Try.prog G 25 [.agg (logC base bt x), iV (base + k), iV (endT bt (x.take k)), rowsV its] (matchV base bt (x.take (k + i) ++ its.drop i) true (base + k + i + 1) 0) := by
  have hc := matchGo_c (G := G) base bt x (base + k) (endT bt (x.take k)) its its (base + k) k h h2 (.inr ⟨by omega, rfl, by omega, rfl, termErr_ok (by omega), termAt_take hk⟩)
  unfold matchGo at hc
  rw [hn] at hc
  simp only [h3, if_true] at hc
  exact hc
theorem matchFull_c {base bt : Int} {x : List Item} {k : Nat} {its : List Item} {i : Nat} (h : checkLog base bt x = 0) (hk : k ≤ x.length) (h2 : checkLog (base + k) (endT bt (x.take k)) its = 0) (hn : firstNew x k its 0 = some i) (h3 : ¬ checkLog base bt (x.take (k + i) ++ its.drop i) = 0) :
    PCall Try.prog G 25 [.agg (logC base bt x), iV (base + k), iV (endT bt (x.take k)), rowsV its] (matchV 0 0 [] false 0 6) := by
  have hc := matchGo_c (G := G) base bt x (base + k) (endT bt (x.take k)) its its (base + k) k h h2 (.inr ⟨by omega, rfl, by omega, rfl, termErr_ok (by omega), termAt_take hk⟩)
  unfold matchGo at hc
  rw [hn] at hc
  simp only [if_neg h3] at hc
  exact hc
/-- A match of what stands behind a place that is there, one's items in another form. -/
theorem rowsOf_c {f : Nat} {a b c : AV} {ra rb : List (List V)} {r : AV} (h : PCall Try.prog G f [a, b, c, .one (.v (.sl ra))] r) (e : rb = ra) : PCall Try.prog G f [a, b, c, .one (.v (.sl rb))] r := by subst e; exact h
theorem matchSame_c (l : List Deed) (base at' n : Int) (hl : (l.length : Int) ≤ 9223372036854775807) (hd : ∀ d ∈ l, d.Ok) (hb : i64 base) (ha : i64 at') (hn : i64 n) :
    PCall Try.prog G 9 [.one (.v (.sl (l.map Deed.row))), iV base, iV at', iV n] (bV true) := by
  obtain ⟨B, T, X, hlog, ok, hX, hB0, hB1, _, _, _⟩ := log_x l base hl hd hb
  have hlog := hlog G
  have hk := pk_range (n := at') (m := (X.length : Int) + 1) (by omega)
  obtain ⟨k, hk'⟩ : ∃ k : Nat, pk at' ((X.length : Int) + 1) = k := ⟨(pk at' ((X.length : Int) + 1)).toNat, by omega⟩
  rw [hk'] at hk
  have hj := pk_range (n := n) (m := (X.length : Int) - k + 1) (by omega)
  obtain ⟨j, hj'⟩ : ∃ j : Nat, pk n ((X.length : Int) - k + 1) = j := ⟨(pk n ((X.length : Int) - k + 1)).toNat, by omega⟩
  rw [hj'] at hj
  have e1 : IntKind.i64.wrap ((X.length : Int) + 1) = X.length + 1 := IntWalk.i64_in _ (by omega)
  have e2 : IntKind.i64.wrap ((X.length : Int) - k) = X.length - k := IntWalk.i64_in _ (by omega)
  have e3 : IntKind.i64.wrap ((X.length : Int) - k + 1) = X.length - k + 1 := IntWalk.i64_in _ (by omega)
  have e4 : IntKind.i64.wrap ((k : Int) + j) = k + j := IntWalk.i64_in _ (by omega)
  have e5 : IntKind.i64.wrap (B + k) = B + k := IntWalk.i64_in _ (by omega)
  have t1 : termErr B X.length (B + k) = 0 := termErr_ok (by omega)
  have g1 := termGood_c (G := G) B T X (B + k) ok (by omega)
  rw [t1, termAt_take (by omega)] at g1
  have g2 := matchNone_c (G := G) (k := k) (its := (X.take (k + j)).drop k) ok (by omega) (by
    have h1 := checkLog_take ok (k + j)
    have h2 := checkLog_drop h1 (k := k) (by simp; omega)
    rw [List.take_take, Nat.min_eq_left (by omega)] at h2
    exact h2) firstNew_sub
  have g3 := rowsOf_c (rb := List.drop k (List.take (k + j) (X.map Item.row))) g2 (by rw [List.map_drop, List.map_take])
  have e6 : ((k : Int) + j).toNat = k + j := by omega
  have u1 := ul_rows X
  have q0 : (X.length : Int) + 1 ≠ 0 := by omega
  have q1 : (X.length : Int) - k + 1 ≠ 0 := by omega
  have q2 : i64 (B + k) := by unfold i64; omega
  have hs := sameLog_c (G := G) B T X B T X (by omega)
  refine pcall mixed Try.func9 ok_rostrumkeep_MatchSame rs_rostrumkeep_MatchSame (by simp [Try.f9]) ?_
  unfold ac_rostrumkeep_MatchSame
  repeat' (first
    | (with_reducible refine Cnd.intro (fun h => ?_) (fun h => ?_))
    | (with_reducible refine And.intro ?_ ?_)
    | (with_reducible refine Wk.refl ?_)
    | (with_reducible exact Weak.refl _ _)
    | (with_reducible refine weak_auto ?_)
    | (with_reducible apply awp_join)
    | (with_reducible refine CallZ.l (PCall.kf (hlog) ?_ ?_))
    | (with_reducible refine PCall.kf (hlog) ?_ ?_)
    | (with_reducible refine PCall.df (hlog) ?_ ?_)
    | (with_reducible refine CallZ.l (PCall.kf (picked_c _ _ (by assumption) q0) ?_ ?_))
    | (with_reducible refine PCall.kf (picked_c _ _ (by assumption) q0) ?_ ?_)
    | (with_reducible refine PCall.df (picked_c _ _ (by assumption) q0) ?_ ?_)
    | (with_reducible refine CallZ.l (PCall.kf (picked_c _ _ (by assumption) q1) ?_ ?_))
    | (with_reducible refine PCall.kf (picked_c _ _ (by assumption) q1) ?_ ?_)
    | (with_reducible refine PCall.df (picked_c _ _ (by assumption) q1) ?_ ?_)
    | (with_reducible refine CallZ.l (PCall.kf (g1) ?_ ?_))
    | (with_reducible refine PCall.kf (g1) ?_ ?_)
    | (with_reducible refine PCall.df (g1) ?_ ?_)
    | (with_reducible refine CallZ.l (PCall.kf (g3) ?_ ?_))
    | (with_reducible refine PCall.kf (g3) ?_ ?_)
    | (with_reducible refine PCall.df (g3) ?_ ?_)
    | (with_reducible refine CallZ.l (PCall.kf (hs) ?_ ?_))
    | (with_reducible refine PCall.kf (hs) ?_ ?_)
    | (with_reducible refine PCall.df (hs) ?_ ?_)
    | (with_reducible refine CallZ.l (PCall.kn (hlog) (by with_unfolding_all rfl) (by with_unfolding_all rfl) ?_))
    | (with_reducible refine PCall.kn (hlog) (by with_unfolding_all rfl) (by with_unfolding_all rfl) ?_)
    | (with_reducible refine PCall.dn (hlog) (by with_unfolding_all rfl) (by with_unfolding_all rfl) ?_)
    | (with_reducible refine CallZ.l (PCall.kn (picked_c _ _ (by assumption) q0) (by with_unfolding_all rfl) (by with_unfolding_all rfl) ?_))
    | (with_reducible refine PCall.kn (picked_c _ _ (by assumption) q0) (by with_unfolding_all rfl) (by with_unfolding_all rfl) ?_)
    | (with_reducible refine PCall.dn (picked_c _ _ (by assumption) q0) (by with_unfolding_all rfl) (by with_unfolding_all rfl) ?_)
    | (with_reducible refine CallZ.l (PCall.kn (picked_c _ _ (by assumption) q1) (by with_unfolding_all rfl) (by with_unfolding_all rfl) ?_))
    | (with_reducible refine PCall.kn (picked_c _ _ (by assumption) q1) (by with_unfolding_all rfl) (by with_unfolding_all rfl) ?_)
    | (with_reducible refine PCall.dn (picked_c _ _ (by assumption) q1) (by with_unfolding_all rfl) (by with_unfolding_all rfl) ?_)
    | (with_reducible refine CallZ.l (PCall.kn (g1) (by with_unfolding_all rfl) (by with_unfolding_all rfl) ?_))
    | (with_reducible refine PCall.kn (g1) (by with_unfolding_all rfl) (by with_unfolding_all rfl) ?_)
    | (with_reducible refine PCall.dn (g1) (by with_unfolding_all rfl) (by with_unfolding_all rfl) ?_)
    | (with_reducible refine CallZ.l (PCall.kn (g3) (by with_unfolding_all rfl) (by with_unfolding_all rfl) ?_))
    | (with_reducible refine PCall.kn (g3) (by with_unfolding_all rfl) (by with_unfolding_all rfl) ?_)
    | (with_reducible refine PCall.dn (g3) (by with_unfolding_all rfl) (by with_unfolding_all rfl) ?_)
    | (with_reducible refine CallZ.l (PCall.kn (hs) (by with_unfolding_all rfl) (by with_unfolding_all rfl) ?_))
    | (with_reducible refine PCall.kn (hs) (by with_unfolding_all rfl) (by with_unfolding_all rfl) ?_)
    | (with_reducible refine PCall.dn (hs) (by with_unfolding_all rfl) (by with_unfolding_all rfl) ?_)
    | ((with_reducible refine PCall.dz (hlog) (by with_unfolding_all rfl) (by with_unfolding_all rfl) ?_); rotate_right; rintro zh1 zq1; (try simp -dsimp [go_sem] at zq1); obtain ⟨rfl⟩ := zq1)
    | ((with_reducible refine PCall.dz (picked_c _ _ (by assumption) q0) (by with_unfolding_all rfl) (by with_unfolding_all rfl) ?_); rotate_right; rintro zh1 zq1; (try simp -dsimp [go_sem] at zq1); obtain ⟨rfl⟩ := zq1)
    | ((with_reducible refine PCall.dz (picked_c _ _ (by assumption) q1) (by with_unfolding_all rfl) (by with_unfolding_all rfl) ?_); rotate_right; rintro zh1 zq1; (try simp -dsimp [go_sem] at zq1); obtain ⟨rfl⟩ := zq1)
    | ((with_reducible refine PCall.dz (g1) (by with_unfolding_all rfl) (by with_unfolding_all rfl) ?_); rotate_right; rintro zh1 zq1; (try simp -dsimp [go_sem] at zq1); obtain ⟨rfl⟩ := zq1)
    | ((with_reducible refine PCall.dz (g3) (by with_unfolding_all rfl) (by with_unfolding_all rfl) ?_); rotate_right; rintro zh1 zq1; (try simp -dsimp [go_sem] at zq1); obtain ⟨rfl⟩ := zq1)
    | ((with_reducible refine PCall.dz (hs) (by with_unfolding_all rfl) (by with_unfolding_all rfl) ?_); rotate_right; rintro zh1 zq1; (try simp -dsimp [go_sem] at zq1); obtain ⟨rfl⟩ := zq1)
    | (with_reducible refine CallZ.z ?_)
    | (simp -dsimp [go_sem, hk', hj', e1, e2, e3, e4, e5, e6, u1]))
  all_goals first | omega | skip
theorem matchNot'_c (l : List Deed) (base at' more : Int) (hl : (l.length : Int) ≤ 9223372036854775807) (hd : ∀ d ∈ l, d.Ok) (hb : i64 base) (ha : i64 at') (hm : i64 more) :
    PCall Try.prog G 10 [.one (.v (.sl (l.map Deed.row))), iV base, iV at', iV more] (bV true) := by
  obtain ⟨B, T, X, hlog, ok, hX, hB0, hB1, hBe, hTe, hXe⟩ := log_x l base hl hd hb
  have hlog := hlog G
  have hk := pk_range (n := at') (m := (X.length : Int) + 1) (by omega)
  obtain ⟨k, hk'⟩ : ∃ k : Nat, pk at' ((X.length : Int) + 1) = k := ⟨(pk at' ((X.length : Int) + 1)).toNat, by omega⟩
  rw [hk'] at hk
  have hm9 := pk_range (n := more) (m := 9) (by omega)
  obtain ⟨m, hm'⟩ : ∃ m, pk more 9 = m := ⟨_, rfl⟩
  rw [hm'] at hm9
  obtain ⟨t, ht⟩ : ∃ t, endT T (X.take k) = t := ⟨_, rfl⟩
  have htb : 0 ≤ t ∧ t ≤ 1048576 := by
    have h1 := checkLog_take ok k
    have h2 := (checkLog_iff _ _ _).1 ok
    rw [checkLog_iff] at h1
    have h3 := endT_bound h1.2.2.2.2.2.2
    by_cases h0 : X.take k = []
    · rw [h0] at ht; simp only [endT] at ht; omega
    · have := h3.2.2 h0; omega
  have e1 : IntKind.i64.wrap ((X.length : Int) + 1) = X.length + 1 := IntWalk.i64_in _ (by omega)
  have e2 : IntKind.i64.wrap (B + k) = B + k := IntWalk.i64_in _ (by omega)
  have e3 : IntKind.i64.wrap (t + 1) = t + 1 := IntWalk.i64_in _ (by omega)
  have e4 : IntKind.i64.wrap (t + 1 + m) = t + 1 + m := IntWalk.i64_in _ (by omega)
  have e5 : IntKind.i64.wrap (B + X.length) = B + X.length := IntWalk.i64_in _ (by omega)
  have e6 : IntKind.i64.wrap (B + X.length + 1) = B + X.length + 1 := IntWalk.i64_in _ (by omega)
  have e7 : IntKind.i64.wrap (B + X.length + 1 + m) = B + X.length + 1 + m := IntWalk.i64_in _ (by omega)
  have t1 : termErr B X.length (B + k) = 0 := termErr_ok (by omega)
  have g1 := termGood_c (G := G) B T X (B + k) ok (by omega)
  rw [t1, termAt_take (by omega), ht] at g1
  have q0 : (X.length : Int) + 1 ≠ 0 := by omega
  have hs := sameLog_c (G := G) B T X B T X (by omega)
  have hT : T ≤ 2 ∧ (B = 0 → T = 0) := by rw [hTe, hBe]; unfold logBT; split <;> omega
  have htb2 : t ≤ 40 := by
    rw [← ht]
    rcases endT_mem (X.take k) T with h | ⟨y, hy, h⟩
    · omega
    · rw [h]; have hy' := List.mem_of_mem_take hy; rw [hXe] at hy'; have := made_bound l base y hy'; omega
  have nil_ok : ∀ p o : Int, 1 ≤ p → p ≤ 1048576 → 1 ≤ o → o ≤ 1048576 → checkLog p o [] = 0 := fun p o h1 h2 h3 h4 => by
    rw [checkLog_iff]; refine ⟨by omega, by omega, h4, ⟨fun h => by omega, fun h => by omega⟩, by simp, by simpa using h2, rfl⟩
  obtain ⟨pl, hpl⟩ : ∃ pl, (if B + (k : Int) < 1 then 1 else B + (k : Int)) = pl := ⟨_, rfl⟩
  have hplb : 1 ≤ pl ∧ pl ≤ 1048576 ∧ B ≤ pl := by rw [← hpl]; split <;> omega
  obtain ⟨b, hb1, g2⟩ : ∃ b, (B + (k : Int) ≠ 0 → b = false) ∧ PCall Try.prog G 25 [.agg (logC B T X), iV pl, iV (t + 1 + m), rowsV []] (matchV B T X b 0 0) := by
    by_cases hz : B + (k : Int) = 0
    · by_cases hq : termErr B X.length pl = 0 ∧ termAt B T X pl = t + 1 + m
      · refine ⟨true, fun h => absurd hz h, ?_⟩
        have hc := matchGo_c (G := G) B T X pl (t + 1 + m) [] [] pl (pl - B).toNat ok (nil_ok _ _ (by omega) (by omega) (by omega) (by omega)) (.inr ⟨by omega, rfl, rfl, rfl, hq.1, hq.2⟩)
        exact hc
      · refine ⟨false, fun h => rfl, matchNot_c (G := G) B T X pl (t + 1 + m) [] ok (nil_ok _ _ (by omega) (by omega) (by omega) (by omega)) (by omega) ?_⟩
        by_cases h1 : termErr B X.length pl = 0
        · exact .inr fun h2 => hq ⟨h1, h2⟩
        · exact .inl h1
    · have hp' : pl = B + k := by rw [← hpl, if_neg (by omega)]
      refine ⟨false, fun _ => rfl, matchNot_c (G := G) B T X pl (t + 1 + m) [] ok (nil_ok _ _ (by omega) (by omega) (by omega) (by omega)) (by omega) (.inr ?_)⟩
      rw [hp', termAt_take (by omega), ht]
      omega
  have g3 := matchNot_c (G := G) B T X (B + X.length + 1 + m) 5000 [] ok (nil_ok _ _ (by omega) (by omega) (by omega) (by omega)) (by omega) (.inl (by rw [termErr_next _ _ _ (by omega)]; decide))
  refine pcall mixed Try.func10 ok_rostrumkeep_MatchNot rs_rostrumkeep_MatchNot (by simp [Try.f10]) ?_
  unfold ac_rostrumkeep_MatchNot
  repeat' (first
    | (with_reducible refine Cnd.intro (fun h => ?_) (fun h => ?_))
    | (with_reducible refine And.intro ?_ ?_)
    | (with_reducible refine Wk.refl ?_)
    | (with_reducible exact Weak.refl _ _)
    | (with_reducible refine weak_auto ?_)
    | (with_reducible apply awp_join)
    | (with_reducible refine CallZ.l (PCall.kf (hlog) ?_ ?_))
    | (with_reducible refine PCall.kf (hlog) ?_ ?_)
    | (with_reducible refine PCall.df (hlog) ?_ ?_)
    | (with_reducible refine CallZ.l (PCall.kf (picked_c _ _ (by assumption) q0) ?_ ?_))
    | (with_reducible refine PCall.kf (picked_c _ _ (by assumption) q0) ?_ ?_)
    | (with_reducible refine PCall.df (picked_c _ _ (by assumption) q0) ?_ ?_)
    | (with_reducible refine CallZ.l (PCall.kf (picked_c _ _ (by assumption) (by simp)) ?_ ?_))
    | (with_reducible refine PCall.kf (picked_c _ _ (by assumption) (by simp)) ?_ ?_)
    | (with_reducible refine PCall.df (picked_c _ _ (by assumption) (by simp)) ?_ ?_)
    | (with_reducible refine CallZ.l (PCall.kf (g1) ?_ ?_))
    | (with_reducible refine PCall.kf (g1) ?_ ?_)
    | (with_reducible refine PCall.df (g1) ?_ ?_)
    | (with_reducible refine CallZ.l (PCall.kf (g2) ?_ ?_))
    | (with_reducible refine PCall.kf (g2) ?_ ?_)
    | (with_reducible refine PCall.df (g2) ?_ ?_)
    | (with_reducible refine CallZ.l (PCall.kf (g3) ?_ ?_))
    | (with_reducible refine PCall.kf (g3) ?_ ?_)
    | (with_reducible refine PCall.df (g3) ?_ ?_)
    | (with_reducible refine CallZ.l (PCall.kf (hs) ?_ ?_))
    | (with_reducible refine PCall.kf (hs) ?_ ?_)
    | (with_reducible refine PCall.df (hs) ?_ ?_)
    | (with_reducible refine CallZ.l (PCall.kn (hlog) (by with_unfolding_all rfl) (by with_unfolding_all rfl) ?_))
    | (with_reducible refine PCall.kn (hlog) (by with_unfolding_all rfl) (by with_unfolding_all rfl) ?_)
    | (with_reducible refine PCall.dn (hlog) (by with_unfolding_all rfl) (by with_unfolding_all rfl) ?_)
    | (with_reducible refine CallZ.l (PCall.kn (picked_c _ _ (by assumption) q0) (by with_unfolding_all rfl) (by with_unfolding_all rfl) ?_))
    | (with_reducible refine PCall.kn (picked_c _ _ (by assumption) q0) (by with_unfolding_all rfl) (by with_unfolding_all rfl) ?_)
    | (with_reducible refine PCall.dn (picked_c _ _ (by assumption) q0) (by with_unfolding_all rfl) (by with_unfolding_all rfl) ?_)
    | (with_reducible refine CallZ.l (PCall.kn (picked_c _ _ (by assumption) (by simp)) (by with_unfolding_all rfl) (by with_unfolding_all rfl) ?_))
    | (with_reducible refine PCall.kn (picked_c _ _ (by assumption) (by simp)) (by with_unfolding_all rfl) (by with_unfolding_all rfl) ?_)
    | (with_reducible refine PCall.dn (picked_c _ _ (by assumption) (by simp)) (by with_unfolding_all rfl) (by with_unfolding_all rfl) ?_)
    | (with_reducible refine CallZ.l (PCall.kn (g1) (by with_unfolding_all rfl) (by with_unfolding_all rfl) ?_))
    | (with_reducible refine PCall.kn (g1) (by with_unfolding_all rfl) (by with_unfolding_all rfl) ?_)
    | (with_reducible refine PCall.dn (g1) (by with_unfolding_all rfl) (by with_unfolding_all rfl) ?_)
    | (with_reducible refine CallZ.l (PCall.kn (g2) (by with_unfolding_all rfl) (by with_unfolding_all rfl) ?_))
    | (with_reducible refine PCall.kn (g2) (by with_unfolding_all rfl) (by with_unfolding_all rfl) ?_)
    | (with_reducible refine PCall.dn (g2) (by with_unfolding_all rfl) (by with_unfolding_all rfl) ?_)
    | (with_reducible refine CallZ.l (PCall.kn (g3) (by with_unfolding_all rfl) (by with_unfolding_all rfl) ?_))
    | (with_reducible refine PCall.kn (g3) (by with_unfolding_all rfl) (by with_unfolding_all rfl) ?_)
    | (with_reducible refine PCall.dn (g3) (by with_unfolding_all rfl) (by with_unfolding_all rfl) ?_)
    | (with_reducible refine CallZ.l (PCall.kn (hs) (by with_unfolding_all rfl) (by with_unfolding_all rfl) ?_))
    | (with_reducible refine PCall.kn (hs) (by with_unfolding_all rfl) (by with_unfolding_all rfl) ?_)
    | (with_reducible refine PCall.dn (hs) (by with_unfolding_all rfl) (by with_unfolding_all rfl) ?_)
    | ((with_reducible refine PCall.dz (hlog) (by with_unfolding_all rfl) (by with_unfolding_all rfl) ?_); rotate_right; rintro zh1 zq1; (try simp -dsimp [go_sem] at zq1); obtain ⟨rfl⟩ := zq1)
    | ((with_reducible refine PCall.dz (picked_c _ _ (by assumption) q0) (by with_unfolding_all rfl) (by with_unfolding_all rfl) ?_); rotate_right; rintro zh1 zq1; (try simp -dsimp [go_sem] at zq1); obtain ⟨rfl⟩ := zq1)
    | ((with_reducible refine PCall.dz (picked_c _ _ (by assumption) (by simp)) (by with_unfolding_all rfl) (by with_unfolding_all rfl) ?_); rotate_right; rintro zh1 zq1; (try simp -dsimp [go_sem] at zq1); obtain ⟨rfl⟩ := zq1)
    | ((with_reducible refine PCall.dz (g1) (by with_unfolding_all rfl) (by with_unfolding_all rfl) ?_); rotate_right; rintro zh1 zq1; (try simp -dsimp [go_sem] at zq1); obtain ⟨rfl⟩ := zq1)
    | ((with_reducible refine PCall.dz (g2) (by with_unfolding_all rfl) (by with_unfolding_all rfl) ?_); rotate_right; rintro zh1 zq1; (try simp -dsimp [go_sem] at zq1); obtain ⟨rfl⟩ := zq1)
    | ((with_reducible refine PCall.dz (g3) (by with_unfolding_all rfl) (by with_unfolding_all rfl) ?_); rotate_right; rintro zh1 zq1; (try simp -dsimp [go_sem] at zq1); obtain ⟨rfl⟩ := zq1)
    | ((with_reducible refine PCall.dz (hs) (by with_unfolding_all rfl) (by with_unfolding_all rfl) ?_); rotate_right; rintro zh1 zq1; (try simp -dsimp [go_sem] at zq1); obtain ⟨rfl⟩ := zq1)
    | (with_reducible refine CallZ.z ?_)
    | (simp -dsimp [go_sem, hk', hm', e1, e2, e3, e4, e5, e6, e7, hpl]))
  all_goals first | omega | skip
  · rename_i hz
    simp at hz h
    have := hb1 hz
    simp_all
end Go.Proofs.Ytniihihcklpdgaa
