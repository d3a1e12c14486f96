/- The functions BehindTold, TrimKeeps, MatchSame, MatchNot answer true. -/
import Derived.Test.YtniihihcklpdgaaV
set_option linter.unusedVariables false
set_option linter.unusedSimpArgs false
set_option maxRecDepth 100000
set_option maxHeartbeats 8000000
namespace Go.Proofs.Ytniihihcklpdgaa
open Go Go.RowKit Go.Proofs.AE
variable {G : Nat → AV}
theorem itemsGo_bound : ∀ (l : List Deed) (te ti : Int) (n : Nat), l.length ≤ n → ∀ y ∈ itemsGo l te ti, te ≤ y.term ∧ y.term ≤ te + n ∧ ti ≤ y.time ∧ y.time ≤ ti + 2 * n
  | [], _, _, _, _, y, h => by simp [itemsGo] at h
  | d :: l, te, ti, n, hn, y, h => by
    obtain ⟨s1, s2, s3, s4⟩ := step_range d
    simp only [itemsGo, List.mem_cons] at h
    simp only [List.length_cons] at hn
    rcases h with rfl | h
    · obtain ⟨t1, t2, _⟩ := itemOf_head d (te + (pk d.off 4).tdiv 3) (ti + pk d.wait 3)
      rw [t1, t2]; omega
    · have := itemsGo_bound l _ _ (n - 1) (by omega) y h
      omega
theorem made_bound (l : List Deed) (base : Int) : ∀ y ∈ logItems l base, 1 ≤ y.term ∧ y.term ≤ 40 ∧ 0 ≤ y.time ∧ y.time ≤ 60 := by
  intro y hy
  unfold logItems itemsOf at hy
  have := itemsGo_bound (l.take 30) _ 0 30 (by simp; omega) y hy
  split at this <;> omega
theorem endT_mem : ∀ (x : List Item) (t : Int), endT t x = t ∨ ∃ y ∈ x, endT t x = y.term
  | [], t => .inl rfl
  | y :: l, t => by
    right
    simp only [endT]
    rcases endT_mem l y.term with h | ⟨z, hz, h⟩
    · exact ⟨y, List.mem_cons_self .., h⟩
    · exact ⟨z, List.mem_cons_of_mem _ hz, h⟩
theorem endM_mem : ∀ (x : List Item) (t : Int), endM t x = t ∨ ∃ y ∈ x, endM t x = y.time
  | [], t => .inl rfl
  | y :: l, t => by
    right
    simp only [endM]
    rcases endM_mem l y.time with h | ⟨z, hz, h⟩
    · exact ⟨y, List.mem_cons_self .., h⟩
    · exact ⟨z, List.mem_cons_of_mem _ hz, h⟩
theorem log_x (l : List Deed) (base : Int) (hl : (l.length : Int) ≤ 9223372036854775807) (hd : ∀ d ∈ l, d.Ok) (hb : i64 base) :
    ∃ B T X, (∀ G, PCall Try.prog G 19 [.one (.v (.sl (l.map Deed.row))), iV base] (.agg (logC B T X))) ∧ checkLog B T X = 0 ∧ X.length ≤ 30 ∧ 0 ≤ B ∧ B < 12 ∧ B = pk base 12 ∧ T = logBT base ∧ X = logItems l base := by
  have hB := pk_range (n := base) (m := 12) (by omega)
  exact ⟨_, _, _, fun G => log_c (G := G) l base hl hd hb, made_ok l base hd, logItems_length l base, hB.1, hB.2, rfl, rfl, rfl⟩
theorem sameItemsR_c (ra rb : List (List V)) (a b : List Item) (ha : ra = a.map Item.row) (hb : rb = b.map Item.row) (hl : (a.length : Int) ≤ 9223372036854775807) : PCall Try.prog G 22 [.one (.v (.sl ra)), .one (.v (.sl rb))] (bV (decide (a = b))) := by
  subst ha; subst hb; exact sameItems_c a b hl
theorem termErr_next (B : Int) (n : Nat) (p : Int) (h : B + n < p) : termErr B n p = 5 := by
  unfold termErr
  rw [if_neg (by omega), if_neg (by omega), if_pos (by omega)]
theorem behindTold_c (l : List Deed) (base at' most : Int) (hl : (l.length : Int) ≤ 9223372036854775807) (hd : ∀ d ∈ l, d.Ok) (hb : i64 base) (ha : i64 at') (hm : i64 most) :
    PCall Try.prog G 4 [.one (.v (.sl (l.map Deed.row))), iV base, iV at', iV most] (bV true) := by
  obtain ⟨B, T, X, hlog, ok, hX, hB0, hB1, _, _, _⟩ := log_x l base hl hd hb
  have hlog := hlog G
  have hk := pk_range (n := at') (m := (X.length : Int) + 1) (by omega)
  have hn := pk_range (n := most) (m := 12) (by omega)
  obtain ⟨k, hk'⟩ : ∃ k, pk at' ((X.length : Int) + 1) = k := ⟨_, rfl⟩
  obtain ⟨n, hn'⟩ : ∃ n, pk most 12 = n := ⟨_, rfl⟩
  rw [hk'] at hk; rw [hn'] at hn
  have e1 : IntKind.i64.wrap ((X.length : Int) + 1) = X.length + 1 := IntWalk.i64_in _ (by omega)
  have e2 : IntKind.i64.wrap (B + k) = B + k := IntWalk.i64_in _ (by omega)
  have e3 : IntKind.i64.wrap (B + X.length) = B + X.length := IntWalk.i64_in _ (by omega)
  have e4 : IntKind.i64.wrap (B + X.length + 1) = B + X.length + 1 := IntWalk.i64_in _ (by omega)
  have e5 : IntKind.i64.wrap (k + n) = k + n := IntWalk.i64_in _ (by omega)
  have t1 : termErr B X.length (B + k) = 0 := termErr_ok (by omega)
  have t2 : termErr B X.length (B + X.length + 1) = 5 := termErr_next _ _ _ (by omega)
  have t3 := behindErr_c (G := G) B T X (B + X.length + 1) 1 ok (by omega) (by omega) (by rw [t2]; decide)
  rw [t2] at t3
  have u1 := ul_rows X
  have q0 : (X.length : Int) + 1 ≠ 0 := by omega
  have r1 : (X.map Item.row).drop k.toNat = (X.drop k.toNat).map Item.row := by rw [List.map_drop]
  have hbe : List.drop k.toNat ((X.map Item.row).take (if (X.length : Int) < k + n then (X.length : Int) else k + n).toNat) = (behind B X (B + k) n).map Item.row := by
    unfold behind
    rw [show (B + k - B).toNat = k.toNat by omega, ← List.map_take, ← List.map_drop]
    congr 1
    rw [List.drop_take]
    split
    · rw [List.take_of_length_le (by rw [List.length_drop]; omega), List.take_of_length_le (by rw [List.length_drop]; omega)]
    · congr 1; omega
  refine pcall mixed Try.func4 ok_rostrumkeep_BehindTold rs_rostrumkeep_BehindTold (by simp [Try.f4]) ?_
  unfold ac_rostrumkeep_BehindTold
  repeat' (first
    | (with_reducible refine Cnd.intro (fun h => ?_) (fun h => ?_))
    | (with_reducible refine And.intro ?_ ?_)
    | (with_reducible refine Wk.refl ?_)
    | (with_reducible exact Weak.refl _ _)
    | (with_reducible refine weak_auto ?_)
    | (with_reducible apply awp_join)
    | (with_reducible refine CallZ.l (PCall.kf (hlog) ?_ ?_))
    | (with_reducible refine PCall.kf (hlog) ?_ ?_)
    | (with_reducible refine PCall.df (hlog) ?_ ?_)
    | (with_reducible refine CallZ.l (PCall.kf (picked_c _ _ (by assumption) q0) ?_ ?_))
    | (with_reducible refine PCall.kf (picked_c _ _ (by assumption) q0) ?_ ?_)
    | (with_reducible refine PCall.df (picked_c _ _ (by assumption) q0) ?_ ?_)
    | (with_reducible refine CallZ.l (PCall.kf (picked_c _ _ (by assumption) (by simp)) ?_ ?_))
    | (with_reducible refine PCall.kf (picked_c _ _ (by assumption) (by simp)) ?_ ?_)
    | (with_reducible refine PCall.df (picked_c _ _ (by assumption) (by simp)) ?_ ?_)
    | (with_reducible refine CallZ.l (PCall.kf (behind_c _ _ _ _ _ ok (by omega) (by omega) t1) ?_ ?_))
    | (with_reducible refine PCall.kf (behind_c _ _ _ _ _ ok (by omega) (by omega) t1) ?_ ?_)
    | (with_reducible refine PCall.df (behind_c _ _ _ _ _ ok (by omega) (by omega) t1) ?_ ?_)
    | (with_reducible refine CallZ.l (PCall.kf (behindMost_c _ _ _ _ _ ok (by omega) (by omega)) ?_ ?_))
    | (with_reducible refine PCall.kf (behindMost_c _ _ _ _ _ ok (by omega) (by omega)) ?_ ?_)
    | (with_reducible refine PCall.df (behindMost_c _ _ _ _ _ ok (by omega) (by omega)) ?_ ?_)
    | (with_reducible refine CallZ.l (PCall.kf (t3) ?_ ?_))
    | (with_reducible refine PCall.kf (t3) ?_ ?_)
    | (with_reducible refine PCall.df (t3) ?_ ?_)
    | (with_reducible refine CallZ.l (PCall.kf (sameItemsR_c _ _ (behind B X (B + k) n) (behind B X (B + k) n) rfl hbe (by simp [behind]; omega)) ?_ ?_))
    | (with_reducible refine PCall.kf (sameItemsR_c _ _ (behind B X (B + k) n) (behind B X (B + k) n) rfl hbe (by simp [behind]; omega)) ?_ ?_)
    | (with_reducible refine PCall.df (sameItemsR_c _ _ (behind B X (B + k) n) (behind B X (B + k) n) rfl hbe (by simp [behind]; omega)) ?_ ?_)
    | (with_reducible refine CallZ.l (PCall.kn (hlog) (by with_unfolding_all rfl) (by with_unfolding_all rfl) ?_))
    | (with_reducible refine PCall.kn (hlog) (by with_unfolding_all rfl) (by with_unfolding_all rfl) ?_)
    | (with_reducible refine PCall.dn (hlog) (by with_unfolding_all rfl) (by with_unfolding_all rfl) ?_)
    | (with_reducible refine CallZ.l (PCall.kn (picked_c _ _ (by assumption) q0) (by with_unfolding_all rfl) (by with_unfolding_all rfl) ?_))
    | (with_reducible refine PCall.kn (picked_c _ _ (by assumption) q0) (by with_unfolding_all rfl) (by with_unfolding_all rfl) ?_)
    | (with_reducible refine PCall.dn (picked_c _ _ (by assumption) q0) (by with_unfolding_all rfl) (by with_unfolding_all rfl) ?_)
    | (with_reducible refine CallZ.l (PCall.kn (picked_c _ _ (by assumption) (by simp)) (by with_unfolding_all rfl) (by with_unfolding_all rfl) ?_))
    | (with_reducible refine PCall.kn (picked_c _ _ (by assumption) (by simp)) (by with_unfolding_all rfl) (by with_unfolding_all rfl) ?_)
    | (with_reducible refine PCall.dn (picked_c _ _ (by assumption) (by simp)) (by with_unfolding_all rfl) (by with_unfolding_all rfl) ?_)
    | (with_reducible refine CallZ.l (PCall.kn (behind_c _ _ _ _ _ ok (by omega) (by omega) t1) (by with_unfolding_all rfl) (by with_unfolding_all rfl) ?_))
    | (with_reducible refine PCall.kn (behind_c _ _ _ _ _ ok (by omega) (by omega) t1) (by with_unfolding_all rfl) (by with_unfolding_all rfl) ?_)
    | (with_reducible refine PCall.dn (behind_c _ _ _ _ _ ok (by omega) (by omega) t1) (by with_unfolding_all rfl) (by with_unfolding_all rfl) ?_)
    | (with_reducible refine CallZ.l (PCall.kn (behindMost_c _ _ _ _ _ ok (by omega) (by omega)) (by with_unfolding_all rfl) (by with_unfolding_all rfl) ?_))
    | (with_reducible refine PCall.kn (behindMost_c _ _ _ _ _ ok (by omega) (by omega)) (by with_unfolding_all rfl) (by with_unfolding_all rfl) ?_)
    | (with_reducible refine PCall.dn (behindMost_c _ _ _ _ _ ok (by omega) (by omega)) (by with_unfolding_all rfl) (by with_unfolding_all rfl) ?_)
    | (with_reducible refine CallZ.l (PCall.kn (t3) (by with_unfolding_all rfl) (by with_unfolding_all rfl) ?_))
    | (with_reducible refine PCall.kn (t3) (by with_unfolding_all rfl) (by with_unfolding_all rfl) ?_)
    | (with_reducible refine PCall.dn (t3) (by with_unfolding_all rfl) (by with_unfolding_all rfl) ?_)
    | (with_reducible refine CallZ.l (PCall.kn (sameItemsR_c _ _ (behind B X (B + k) n) (behind B X (B + k) n) rfl hbe (by simp [behind]; omega)) (by with_unfolding_all rfl) (by with_unfolding_all rfl) ?_))
    | (with_reducible refine PCall.kn (sameItemsR_c _ _ (behind B X (B + k) n) (behind B X (B + k) n) rfl hbe (by simp [behind]; omega)) (by with_unfolding_all rfl) (by with_unfolding_all rfl) ?_)
    | (with_reducible refine PCall.dn (sameItemsR_c _ _ (behind B X (B + k) n) (behind B X (B + k) n) rfl hbe (by simp [behind]; omega)) (by with_unfolding_all rfl) (by with_unfolding_all rfl) ?_)
    | ((with_reducible refine PCall.dz (hlog) (by with_unfolding_all rfl) (by with_unfolding_all rfl) ?_); rotate_right; rintro zh1 zq1; (try simp -dsimp [go_sem] at zq1); obtain ⟨rfl⟩ := zq1)
    | ((with_reducible refine PCall.dz (picked_c _ _ (by assumption) q0) (by with_unfolding_all rfl) (by with_unfolding_all rfl) ?_); rotate_right; rintro zh1 zq1; (try simp -dsimp [go_sem] at zq1); obtain ⟨rfl⟩ := zq1)
    | ((with_reducible refine PCall.dz (picked_c _ _ (by assumption) (by simp)) (by with_unfolding_all rfl) (by with_unfolding_all rfl) ?_); rotate_right; rintro zh1 zq1; (try simp -dsimp [go_sem] at zq1); obtain ⟨rfl⟩ := zq1)
    | ((with_reducible refine PCall.dz (behind_c _ _ _ _ _ ok (by omega) (by omega) t1) (by with_unfolding_all rfl) (by with_unfolding_all rfl) ?_); rotate_right; rintro zh1 zq1; (try simp -dsimp [go_sem] at zq1); obtain ⟨rfl⟩ := zq1)
    | ((with_reducible refine PCall.dz (behindMost_c _ _ _ _ _ ok (by omega) (by omega)) (by with_unfolding_all rfl) (by with_unfolding_all rfl) ?_); rotate_right; rintro zh1 zq1; (try simp -dsimp [go_sem] at zq1); obtain ⟨rfl⟩ := zq1)
    | ((with_reducible refine PCall.dz (t3) (by with_unfolding_all rfl) (by with_unfolding_all rfl) ?_); rotate_right; rintro zh1 zq1; (try simp -dsimp [go_sem] at zq1); obtain ⟨rfl⟩ := zq1)
    | ((with_reducible refine PCall.dz (sameItemsR_c _ _ (behind B X (B + k) n) (behind B X (B + k) n) rfl hbe (by simp [behind]; omega)) (by with_unfolding_all rfl) (by with_unfolding_all rfl) ?_); rotate_right; rintro zh1 zq1; (try simp -dsimp [go_sem] at zq1); obtain ⟨rfl⟩ := zq1)
    | (with_reducible refine CallZ.z ?_)
    | (simp -dsimp [go_sem, hk', hn', e1, e2, e3, e4, e5, u1]))
  all_goals first | omega | skip
theorem trimKeeps_c (l : List Deed) (base at' : Int) (hl : (l.length : Int) ≤ 9223372036854775807) (hd : ∀ d ∈ l, d.Ok) (hb : i64 base) (ha : i64 at') :
    PCall Try.prog G 5 [.one (.v (.sl (l.map Deed.row))), iV base, iV at'] (bV true) := by
  obtain ⟨B, T, X, hlog, ok, hX, hB0, hB1, _, _, _⟩ := log_x l base hl hd hb
  have hlog := hlog G
  have hk := pk_range (n := at') (m := (X.length : Int) + 1) (by omega)
  obtain ⟨k, hk'⟩ : ∃ k : Nat, pk at' ((X.length : Int) + 1) = k := ⟨(pk at' ((X.length : Int) + 1)).toNat, by omega⟩
  rw [hk'] at hk
  have e1 : IntKind.i64.wrap ((X.length : Int) + 1) = X.length + 1 := IntWalk.i64_in _ (by omega)
  have e2 : IntKind.i64.wrap (B + k) = B + k := IntWalk.i64_in _ (by omega)
  have e3 : IntKind.i64.wrap (B + k - 1) = B + k - 1 := IntWalk.i64_in _ (by omega)
  have e4 : IntKind.i64.wrap (B + X.length + 1) = B + X.length + 1 := IntWalk.i64_in _ (by omega)
  have t1 : termErr B X.length (B + k) = 0 := termErr_ok (by omega)
  have t2 : termErr B X.length (B + X.length + 1) = 5 := termErr_next _ _ _ (by omega)
  have t3 := trimErr_c (G := G) B T X (B + X.length + 1) ok (by unfold i64; omega) (by rw [t2]; decide)
  rw [t2] at t3
  have ok2 := checkLog_drop ok (k := k) (by omega)
  have ht := termAt_take (base := B) (bt := T) (x := X) (k := k) (by omega)
  have c1 := trim_c (G := G) B T X (B + k) ok (by unfold i64; omega) t1
  rw [ht, show (B + (k : Int) - B).toNat = k by omega] at c1
  have t4 : termErr (B + k) (X.drop k).length (B + k - 1) = 11 := by unfold termErr; rw [if_pos (by omega)]
  have c2 := trimErr_c (G := G) (B + k) (endT T (X.take k)) (X.drop k) (B + k - 1) ok2 (by unfold i64; omega) (by rw [t4]; decide)
  rw [t4] at c2
  have l1 := lastGood_c (G := G) B T X ok
  have l2 := lastGood_c (G := G) _ _ _ ok2
  rw [lastTerm_end, ← endT_app, List.take_append_drop, ← lastTerm_end T X, show B + (k : Int) + ((X.drop k).length : Int) = B + X.length by simp; omega] at l2
  have u1 := ul_rows X
  have q0 : (X.length : Int) + 1 ≠ 0 := by omega
  have htk : (X.map Item.row).take X.length = X.map Item.row := List.take_of_length_le (by simp)
  refine pcall mixed Try.func5 ok_rostrumkeep_TrimKeeps rs_rostrumkeep_TrimKeeps (by simp [Try.f5]) ?_
  unfold ac_rostrumkeep_TrimKeeps
  repeat' (first
    | (with_reducible refine Cnd.intro (fun h => ?_) (fun h => ?_))
    | (with_reducible refine And.intro ?_ ?_)
    | (with_reducible refine Wk.refl ?_)
    | (with_reducible exact Weak.refl _ _)
    | (with_reducible refine weak_auto ?_)
    | (with_reducible apply awp_join)
    | (with_reducible refine CallZ.l (PCall.kf (hlog) ?_ ?_))
    | (with_reducible refine PCall.kf (hlog) ?_ ?_)
    | (with_reducible refine PCall.df (hlog) ?_ ?_)
    | (with_reducible refine CallZ.l (PCall.kf (picked_c _ _ (by assumption) q0) ?_ ?_))
    | (with_reducible refine PCall.kf (picked_c _ _ (by assumption) q0) ?_ ?_)
    | (with_reducible refine PCall.df (picked_c _ _ (by assumption) q0) ?_ ?_)
    | (with_reducible refine CallZ.l (PCall.kf (c1) ?_ ?_))
    | (with_reducible refine PCall.kf (c1) ?_ ?_)
    | (with_reducible refine PCall.df (c1) ?_ ?_)
    | (with_reducible refine CallZ.l (PCall.kf (c2) ?_ ?_))
    | (with_reducible refine PCall.kf (c2) ?_ ?_)
    | (with_reducible refine PCall.df (c2) ?_ ?_)
    | (with_reducible refine CallZ.l (PCall.kf (l1) ?_ ?_))
    | (with_reducible refine PCall.kf (l1) ?_ ?_)
    | (with_reducible refine PCall.df (l1) ?_ ?_)
    | (with_reducible refine CallZ.l (PCall.kf (l2) ?_ ?_))
    | (with_reducible refine PCall.kf (l2) ?_ ?_)
    | (with_reducible refine PCall.df (l2) ?_ ?_)
    | (with_reducible refine CallZ.l (PCall.kf (t3) ?_ ?_))
    | (with_reducible refine PCall.kf (t3) ?_ ?_)
    | (with_reducible refine PCall.df (t3) ?_ ?_)
    | (with_reducible refine CallZ.l (PCall.kf (sameItemsR_c _ _ (X.drop k) (X.drop k) rfl (by simp) (by simp; omega)) ?_ ?_))
    | (with_reducible refine PCall.kf (sameItemsR_c _ _ (X.drop k) (X.drop k) rfl (by simp) (by simp; omega)) ?_ ?_)
    | (with_reducible refine PCall.df (sameItemsR_c _ _ (X.drop k) (X.drop k) rfl (by simp) (by simp; omega)) ?_ ?_)
    | (with_reducible refine CallZ.l (PCall.kn (hlog) (by with_unfolding_all rfl) (by with_unfolding_all rfl) ?_))
    | (with_reducible refine PCall.kn (hlog) (by with_unfolding_all rfl) (by with_unfolding_all rfl) ?_)
    | (with_reducible refine PCall.dn (hlog) (by with_unfolding_all rfl) (by with_unfolding_all rfl) ?_)
    | (with_reducible refine CallZ.l (PCall.kn (picked_c _ _ (by assumption) q0) (by with_unfolding_all rfl) (by with_unfolding_all rfl) ?_))
    | (with_reducible refine PCall.kn (picked_c _ _ (by assumption) q0) (by with_unfolding_all rfl) (by with_unfolding_all rfl) ?_)
    | (with_reducible refine PCall.dn (picked_c _ _ (by assumption) q0) (by with_unfolding_all rfl) (by with_unfolding_all rfl) ?_)
    | (with_reducible refine CallZ.l (PCall.kn (c1) (by with_unfolding_all rfl) (by with_unfolding_all rfl) ?_))
    | (with_reducible refine PCall.kn (c1) (by with_unfolding_all rfl) (by with_unfolding_all rfl) ?_)
    | (with_reducible refine PCall.dn (c1) (by with_unfolding_all rfl) (by with_unfolding_all rfl) ?_)
    | (with_reducible refine CallZ.l (PCall.kn (c2) (by with_unfolding_all rfl) (by with_unfolding_all rfl) ?_))
    | (with_reducible refine PCall.kn (c2) (by with_unfolding_all rfl) (by with_unfolding_all rfl) ?_)
    | (with_reducible refine PCall.dn (c2) (by with_unfolding_all rfl) (by with_unfolding_all rfl) ?_)
    | (with_reducible refine CallZ.l (PCall.kn (l1) (by with_unfolding_all rfl) (by with_unfolding_all rfl) ?_))
    | (with_reducible refine PCall.kn (l1) (by with_unfolding_all rfl) (by with_unfolding_all rfl) ?_)
    | (with_reducible refine PCall.dn (l1) (by with_unfolding_all rfl) (by with_unfolding_all rfl) ?_)
    | (with_reducible refine CallZ.l (PCall.kn (l2) (by with_unfolding_all rfl) (by with_unfolding_all rfl) ?_))
    | (with_reducible refine PCall.kn (l2) (by with_unfolding_all rfl) (by with_unfolding_all rfl) ?_)
    | (with_reducible refine PCall.dn (l2) (by with_unfolding_all rfl) (by with_unfolding_all rfl) ?_)
    | (with_reducible refine CallZ.l (PCall.kn (t3) (by with_unfolding_all rfl) (by with_unfolding_all rfl) ?_))
    | (with_reducible refine PCall.kn (t3) (by with_unfolding_all rfl) (by with_unfolding_all rfl) ?_)
    | (with_reducible refine PCall.dn (t3) (by with_unfolding_all rfl) (by with_unfolding_all rfl) ?_)
    | (with_reducible refine CallZ.l (PCall.kn (sameItemsR_c _ _ (X.drop k) (X.drop k) rfl (by simp) (by simp; omega)) (by with_unfolding_all rfl) (by with_unfolding_all rfl) ?_))
    | (with_reducible refine PCall.kn (sameItemsR_c _ _ (X.drop k) (X.drop k) rfl (by simp) (by simp; omega)) (by with_unfolding_all rfl) (by with_unfolding_all rfl) ?_)
    | (with_reducible refine PCall.dn (sameItemsR_c _ _ (X.drop k) (X.drop k) rfl (by simp) (by simp; omega)) (by with_unfolding_all rfl) (by with_unfolding_all rfl) ?_)
    | ((with_reducible refine PCall.dz (hlog) (by with_unfolding_all rfl) (by with_unfolding_all rfl) ?_); rotate_right; rintro zh1 zq1; (try simp -dsimp [go_sem] at zq1); obtain ⟨rfl⟩ := zq1)
    | ((with_reducible refine PCall.dz (picked_c _ _ (by assumption) q0) (by with_unfolding_all rfl) (by with_unfolding_all rfl) ?_); rotate_right; rintro zh1 zq1; (try simp -dsimp [go_sem] at zq1); obtain ⟨rfl⟩ := zq1)
    | ((with_reducible refine PCall.dz (c1) (by with_unfolding_all rfl) (by with_unfolding_all rfl) ?_); rotate_right; rintro zh1 zq1; (try simp -dsimp [go_sem] at zq1); obtain ⟨rfl⟩ := zq1)
    | ((with_reducible refine PCall.dz (c2) (by with_unfolding_all rfl) (by with_unfolding_all rfl) ?_); rotate_right; rintro zh1 zq1; (try simp -dsimp [go_sem] at zq1); obtain ⟨rfl⟩ := zq1)
    | ((with_reducible refine PCall.dz (l1) (by with_unfolding_all rfl) (by with_unfolding_all rfl) ?_); rotate_right; rintro zh1 zq1; (try simp -dsimp [go_sem] at zq1); obtain ⟨rfl⟩ := zq1)
    | ((with_reducible refine PCall.dz (l2) (by with_unfolding_all rfl) (by with_unfolding_all rfl) ?_); rotate_right; rintro zh1 zq1; (try simp -dsimp [go_sem] at zq1); obtain ⟨rfl⟩ := zq1)
    | ((with_reducible refine PCall.dz (t3) (by with_unfolding_all rfl) (by with_unfolding_all rfl) ?_); rotate_right; rintro zh1 zq1; (try simp -dsimp [go_sem] at zq1); obtain ⟨rfl⟩ := zq1)
    | ((with_reducible refine PCall.dz (sameItemsR_c _ _ (X.drop k) (X.drop k) rfl (by simp) (by simp; omega)) (by with_unfolding_all rfl) (by with_unfolding_all rfl) ?_); rotate_right; rintro zh1 zq1; (try simp -dsimp [go_sem] at zq1); obtain ⟨rfl⟩ := zq1)
    | (with_reducible refine CallZ.z ?_)
    | (simp -dsimp [go_sem, hk', e1, e2, e3, e4, u1, ← List.map_drop, htk]))
  all_goals first | omega | skip
end Go.Proofs.Ytniihihcklpdgaa
