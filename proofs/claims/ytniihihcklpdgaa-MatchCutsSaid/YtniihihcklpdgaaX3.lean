/- The functions MatchBelow, LogFull, MatchBad answer true. -/
import Derived.Test.YtniihihcklpdgaaX2
set_option linter.unusedVariables false
set_option linter.unusedSimpArgs false
set_option maxRecDepth 100000
set_option maxHeartbeats 8000000
namespace Go.Proofs.Ytniihihcklpdgaa
open Go Go.RowKit Go.Proofs.AE
variable {G : Nat → AV}
abbrev nopI (t m : Int) : Item := ⟨t, m, true, 0, 0, 0, ⟨#[]⟩, ⟨#[]⟩, ⟨#[]⟩, 0⟩
theorem nop_ok {t m : Int} (h1 : 1 ≤ t) (h2 : t ≤ 1048576) (h3 : 0 ≤ m) (h4 : m ≤ 1073741824) : (nopI t m).check = 0 := by
  unfold Item.check checkItem
  have n1 : ¬ t < 1 := by omega
  have n2 : ¬ 1048576 < t := by omega
  have n3 : ¬ m < 0 := by omega
  have n4 : ¬ 1073741824 < m := by omega
  have n5 : noCall 0 0 0 ⟨#[]⟩ ⟨#[]⟩ ⟨#[]⟩ 0 = true := by decide
  simp [n1, n2, n3, n4, n5]
theorem chk_nops {t : Int} (h1 : 1 ≤ t) (h2 : t ≤ 1048576) : ∀ (n : Nat) (u : Int), u ≤ t → chk (List.replicate n (nopI t 0)) u 0 = true
  | 0, _, _ => rfl
  | n + 1, u, hu => by
    rw [List.replicate_succ, chk_cons]
    exact ⟨nop_ok h1 h2 (by omega) (by omega), hu, Int.le_refl _, chk_nops h1 h2 n t (Int.le_refl _)⟩
theorem end_nops (t : Int) : ∀ (n : Nat) (u m : Int), endT u (List.replicate n (nopI t 0)) = (if n = 0 then u else t) ∧ endM m (List.replicate n (nopI t 0)) = (if n = 0 then m else 0)
  | 0, _, _ => ⟨rfl, rfl⟩
  | n + 1, u, m => by
    rw [List.replicate_succ]
    simp only [endT, endM]
    obtain ⟨a, b⟩ := end_nops t n t 0
    rw [a, b]
    simp
theorem matchBelow'_c (l : List Deed) (base at' : Int) (hl : (l.length : Int) ≤ 9223372036854775807) (hd : ∀ d ∈ l, d.Ok) (hb : i64 base) (ha : i64 at') :
    PCall Try.prog G 6 [.one (.v (.sl (l.map Deed.row))), iV base, iV at'] (bV true) := by
  have hp := pk_range (n := base) (m := 11) (by omega)
  obtain ⟨b0, hb0⟩ : ∃ b, pk base 11 = b := ⟨_, rfl⟩
  rw [hb0] at hp
  obtain ⟨B, T, X, hlog, ok, hX, hB0, hB1, hBe, hTe, hXe⟩ := log_x l (1 + b0) hl hd (by unfold i64; omega)
  have hlog := hlog G
  have hBv : B = 1 + b0 := by
    rw [hBe]; unfold pk
    rw [if_neg (by omega), Int.tmod_eq_emod_of_nonneg (by omega), Int.emod_eq_of_lt (by omega) (by omega)]
  have hTv : T = 2 := by rw [hTe]; unfold logBT; rw [← hBe, if_neg (by omega)]
  subst hTv
  have e0 : IntKind.i64.wrap (1 + b0) = 1 + b0 := IntWalk.i64_in _ (by omega)
  have hk := pk_range (n := at') (m := B) (by omega)
  obtain ⟨k, hk'⟩ : ∃ k, pk at' B = k := ⟨_, rfl⟩
  rw [hk'] at hk
  have q0 : B ≠ 0 := by omega
  obtain ⟨j, hj⟩ : ∃ j : Nat, B - k = j := ⟨(B - k).toNat, by omega⟩
  have hall : checkLog k (if k = 0 then 0 else 1) (List.replicate j (nopI 2 0) ++ X) = 0 := by
    have h1 := (checkLog_iff _ _ _).1 ok
    rw [checkLog_iff, chk_app]
    obtain ⟨e1, e2⟩ := end_nops 2 j (if k = 0 then 0 else 1) 0
    rw [e1, e2]
    refine ⟨by omega, by split <;> omega, by split <;> omega, by split <;> omega, by simp; omega, by simp; omega, chk_nops (by omega) (by omega) j _ (by split <;> omega), ?_⟩
    rw [if_neg (by omega)]
    have : (if j = 0 then (0 : Int) else 0) = 0 := by split <;> rfl
    rw [this]
    exact h1.2.2.2.2.2.2
  have hn : firstNew X 0 X 0 = none := by
    have := firstNew_sub (x := X) (k := 0) (j := X.length) (i := 0)
    simpa using this
  have g1 := matchGo_c (G := G) B 2 X k (if k = 0 then 0 else 1) (List.replicate j (nopI 2 0) ++ X) X B 0 ok hall (.inl ⟨by omega, rfl, rfl, by
    rw [hj, Int.toNat_natCast, List.drop_left' (by simp)], by simp; omega⟩)
  unfold matchGo at g1
  rw [hn] at g1
  simp only at g1
  have g2 := rowsOf_c (rb := List.replicate j (nopI 2 0).row ++ X.map Item.row) g1 (by simp)
  have hs := sameLog_c (G := G) B 2 X B 2 X (by omega)
  refine pcall mixed Try.func6 ok_rostrumkeep_MatchBelow rs_rostrumkeep_MatchBelow (by simp [Try.f6]) ?_
  unfold ac_rostrumkeep_MatchBelow
  repeat' (first
    | (with_reducible refine Cnd.intro (fun h => ?_) (fun h => ?_))
    | (with_reducible refine And.intro ?_ ?_)
    | (with_reducible refine Wk.refl ?_)
    | (with_reducible exact Weak.refl _ _)
    | (with_reducible refine weak_auto ?_)
    | (with_reducible apply awp_join)
    | (with_reducible refine CallZ.l (PCall.kf (picked_c _ _ (by assumption) (by decide)) ?_ ?_))
    | (with_reducible refine PCall.kf (picked_c _ _ (by assumption) (by decide)) ?_ ?_)
    | (with_reducible refine PCall.df (picked_c _ _ (by assumption) (by decide)) ?_ ?_)
    | (with_reducible refine CallZ.l (PCall.kf (picked_c _ _ (by assumption) q0) ?_ ?_))
    | (with_reducible refine PCall.kf (picked_c _ _ (by assumption) q0) ?_ ?_)
    | (with_reducible refine PCall.df (picked_c _ _ (by assumption) q0) ?_ ?_)
    | (with_reducible refine CallZ.l (PCall.kf (hlog) ?_ ?_))
    | (with_reducible refine PCall.kf (hlog) ?_ ?_)
    | (with_reducible refine PCall.df (hlog) ?_ ?_)
    | (with_reducible refine CallZ.l (PCall.kn (picked_c _ _ (by assumption) (by decide)) (by with_unfolding_all rfl) (by with_unfolding_all rfl) ?_))
    | (with_reducible refine PCall.kn (picked_c _ _ (by assumption) (by decide)) (by with_unfolding_all rfl) (by with_unfolding_all rfl) ?_)
    | (with_reducible refine PCall.dn (picked_c _ _ (by assumption) (by decide)) (by with_unfolding_all rfl) (by with_unfolding_all rfl) ?_)
    | (with_reducible refine CallZ.l (PCall.kn (picked_c _ _ (by assumption) q0) (by with_unfolding_all rfl) (by with_unfolding_all rfl) ?_))
    | (with_reducible refine PCall.kn (picked_c _ _ (by assumption) q0) (by with_unfolding_all rfl) (by with_unfolding_all rfl) ?_)
    | (with_reducible refine PCall.dn (picked_c _ _ (by assumption) q0) (by with_unfolding_all rfl) (by with_unfolding_all rfl) ?_)
    | (with_reducible refine CallZ.l (PCall.kn (hlog) (by with_unfolding_all rfl) (by with_unfolding_all rfl) ?_))
    | (with_reducible refine PCall.kn (hlog) (by with_unfolding_all rfl) (by with_unfolding_all rfl) ?_)
    | (with_reducible refine PCall.dn (hlog) (by with_unfolding_all rfl) (by with_unfolding_all rfl) ?_)
    | ((with_reducible refine PCall.dz (picked_c _ _ (by assumption) (by decide)) (by with_unfolding_all rfl) (by with_unfolding_all rfl) ?_); rotate_right; rintro zh1 zq1; (try simp -dsimp [go_sem] at zq1); obtain ⟨rfl⟩ := zq1)
    | ((with_reducible refine PCall.dz (picked_c _ _ (by assumption) q0) (by with_unfolding_all rfl) (by with_unfolding_all rfl) ?_); rotate_right; rintro zh1 zq1; (try simp -dsimp [go_sem] at zq1); obtain ⟨rfl⟩ := zq1)
    | ((with_reducible refine PCall.dz (hlog) (by with_unfolding_all rfl) (by with_unfolding_all rfl) ?_); rotate_right; rintro zh1 zq1; (try simp -dsimp [go_sem] at zq1); obtain ⟨rfl⟩ := zq1)
    | (with_reducible refine CallZ.z ?_)
    | (simp -dsimp [go_sem, hb0, e0, hk']))
  all_goals first | omega | exact q0 | skip
  refine awp_loop (fun i : Nat => ⟨[(7, .one (.ptr 0 0)), (8, iV k), (9, .one (.ar 1)), (10, iV (k + i))], G, [some (.box 41 (logC B 2 X)), some (.arr 31 10 (List.replicate i (nopI 2 0).row))]⟩) (fun i => i ≤ j) (fun i => j - i) 0 (Weak.trans (weak_nil 9 31 10 ?_ (by omega)) (weak_auto ?_)) (Nat.zero_le _) ?_
  · simp -dsimp [go_sem]
  · simp -dsimp [go_sem, hBv]
  · intro i hi
    have e1 : IntKind.i64.wrap (k + i + 1) = k + i + 1 := IntWalk.i64_in _ (by omega)
    simp -dsimp [go_sem]
    refine Cnd.intro (fun h => ?_) (fun h => ?_)
    · have hlt : i < j := by simp at h; omega
      repeat' (first
    | (with_reducible refine Cnd.intro (fun h => ?_) (fun h => ?_))
    | (with_reducible refine And.intro ?_ ?_)
    | (with_reducible refine Wk.refl ?_)
    | (with_reducible exact Weak.refl _ _)
    | (with_reducible refine weak_auto ?_)
    | (with_reducible apply awp_join)
    | (with_reducible refine CallZ.z ?_)
    | (simp -dsimp [go_sem, e1]))
      all_goals first
        | omega
        | (with_reducible refine Again.auto (i + 1) ?_ ?_ ?_)
        | (simp [UL]; done)
        | skip
      · simp -dsimp [go_sem, List.replicate_succ', Item.row]
        omega
      · exact hlt
      · show j - (i + 1) < j - i
        omega
    · have hij : i = j := by simp at h; omega
      subst hij
      have u1 := ul_rows X
      by_cases hk0 : k = 0
      · subst hk0
        rw [if_pos rfl] at g2
        repeat' (first
    | (with_reducible refine Cnd.intro (fun h => ?_) (fun h => ?_))
    | (with_reducible refine And.intro ?_ ?_)
    | (with_reducible refine Wk.refl ?_)
    | (with_reducible exact Weak.refl _ _)
    | (with_reducible refine weak_auto ?_)
    | (with_reducible apply awp_join)
    | (with_reducible refine CallZ.l (PCall.kf (g2) ?_ ?_))
    | (with_reducible refine PCall.kf (g2) ?_ ?_)
    | (with_reducible refine PCall.df (g2) ?_ ?_)
    | (with_reducible refine CallZ.l (PCall.kf (hs) ?_ ?_))
    | (with_reducible refine PCall.kf (hs) ?_ ?_)
    | (with_reducible refine PCall.df (hs) ?_ ?_)
    | (with_reducible refine CallZ.l (PCall.kn (g2) (by with_unfolding_all rfl) (by with_unfolding_all rfl) ?_))
    | (with_reducible refine PCall.kn (g2) (by with_unfolding_all rfl) (by with_unfolding_all rfl) ?_)
    | (with_reducible refine PCall.dn (g2) (by with_unfolding_all rfl) (by with_unfolding_all rfl) ?_)
    | (with_reducible refine CallZ.l (PCall.kn (hs) (by with_unfolding_all rfl) (by with_unfolding_all rfl) ?_))
    | (with_reducible refine PCall.kn (hs) (by with_unfolding_all rfl) (by with_unfolding_all rfl) ?_)
    | (with_reducible refine PCall.dn (hs) (by with_unfolding_all rfl) (by with_unfolding_all rfl) ?_)
    | ((with_reducible refine PCall.dz (g2) (by with_unfolding_all rfl) (by with_unfolding_all rfl) ?_); rotate_right; rintro zh1 zq1; (try simp -dsimp [go_sem] at zq1); obtain ⟨rfl⟩ := zq1)
    | ((with_reducible refine PCall.dz (hs) (by with_unfolding_all rfl) (by with_unfolding_all rfl) ?_); rotate_right; rintro zh1 zq1; (try simp -dsimp [go_sem] at zq1); obtain ⟨rfl⟩ := zq1)
    | (with_reducible refine CallZ.z ?_)
    | (simp -dsimp [go_sem, u1]))
        all_goals first | omega | skip
      · rw [if_neg hk0] at g2
        have hkb := beq_false_of_ne hk0
        repeat' (first
    | (with_reducible refine Cnd.intro (fun h => ?_) (fun h => ?_))
    | (with_reducible refine And.intro ?_ ?_)
    | (with_reducible refine Wk.refl ?_)
    | (with_reducible exact Weak.refl _ _)
    | (with_reducible refine weak_auto ?_)
    | (with_reducible apply awp_join)
    | (with_reducible refine CallZ.l (PCall.kf (g2) ?_ ?_))
    | (with_reducible refine PCall.kf (g2) ?_ ?_)
    | (with_reducible refine PCall.df (g2) ?_ ?_)
    | (with_reducible refine CallZ.l (PCall.kf (hs) ?_ ?_))
    | (with_reducible refine PCall.kf (hs) ?_ ?_)
    | (with_reducible refine PCall.df (hs) ?_ ?_)
    | (with_reducible refine CallZ.l (PCall.kn (g2) (by with_unfolding_all rfl) (by with_unfolding_all rfl) ?_))
    | (with_reducible refine PCall.kn (g2) (by with_unfolding_all rfl) (by with_unfolding_all rfl) ?_)
    | (with_reducible refine PCall.dn (g2) (by with_unfolding_all rfl) (by with_unfolding_all rfl) ?_)
    | (with_reducible refine CallZ.l (PCall.kn (hs) (by with_unfolding_all rfl) (by with_unfolding_all rfl) ?_))
    | (with_reducible refine PCall.kn (hs) (by with_unfolding_all rfl) (by with_unfolding_all rfl) ?_)
    | (with_reducible refine PCall.dn (hs) (by with_unfolding_all rfl) (by with_unfolding_all rfl) ?_)
    | ((with_reducible refine PCall.dz (g2) (by with_unfolding_all rfl) (by with_unfolding_all rfl) ?_); rotate_right; rintro zh1 zq1; (try simp -dsimp [go_sem] at zq1); obtain ⟨rfl⟩ := zq1)
    | ((with_reducible refine PCall.dz (hs) (by with_unfolding_all rfl) (by with_unfolding_all rfl) ?_); rotate_right; rintro zh1 zq1; (try simp -dsimp [go_sem] at zq1); obtain ⟨rfl⟩ := zq1)
    | (with_reducible refine CallZ.z ?_)
    | (simp -dsimp [go_sem, hkb, u1]))
        all_goals first | omega | skip
  all_goals exact q0
theorem matchBad_c (l : List Deed) (base : Int) (which : Bool) (hl : (l.length : Int) ≤ 9223372036854775807) (hd : ∀ d ∈ l, d.Ok) (hb : i64 base) :
    PCall Try.prog G 7 [.one (.v (.sl (l.map Deed.row))), iV base, bV which] (bV true) := by
  obtain ⟨B, T, X, hlog, ok, hX, hB0, hB1, hBe, hTe, hXe⟩ := log_x l base hl hd hb
  have hlog := hlog G
  have bad : ∀ p o : Int, ∀ b, b = nopI 8 9 ∨ b = nopI 9 8 → checkLog p o [nopI 9 9, b] = 13 := by
    intro p o b h
    rcases checkLog_or p o [nopI 9 9, b] with h1 | h1
    · rw [checkLog_iff] at h1
      have h2 := h1.2.2.2.2.2.2
      rw [chk_cons, chk_cons] at h2
      rcases h with rfl | rfl <;> simp at h2
    · exact h1
  have one : checkLog 1 0 [] = 13 := by
    rcases checkLog_or 1 0 [] with h1 | h1
    · rw [checkLog_iff] at h1; omega
    · exact h1
  have g1 := matchOrder_c (G := G) B T X B T [nopI 9 9, nopI 8 9] ok (by simp) (bad _ _ _ (.inl rfl))
  have g2 := matchOrder_c (G := G) B T X B T [nopI 9 9, nopI 9 8] ok (by simp) (bad _ _ _ (.inr rfl))
  have c1 := checkLog_c (G := G) 0 0 [nopI 9 9, nopI 8 9] (by simp)
  have c2 := checkLog_c (G := G) 0 0 [nopI 9 9, nopI 9 8] (by simp)
  have c3 := checkLog_c (G := G) 1 0 [] (by simp)
  rw [bad _ _ _ (.inl rfl)] at c1
  rw [bad _ _ _ (.inr rfl)] at c2
  rw [one] at c3
  simp only [logC, List.map_cons, List.map_nil, Item.row] at c1 c2 c3
  simp only [rowsV, List.map_cons, List.map_nil, Item.row] at g1 g2
  refine pcall mixed Try.func7 ok_rostrumkeep_MatchBad rs_rostrumkeep_MatchBad (by simp [Try.f7]) ?_
  unfold ac_rostrumkeep_MatchBad
  cases which
  · repeat' (first
    | (with_reducible refine Cnd.intro (fun h => ?_) (fun h => ?_))
    | (with_reducible refine And.intro ?_ ?_)
    | (with_reducible refine Wk.refl ?_)
    | (with_reducible exact Weak.refl _ _)
    | (with_reducible refine weak_auto ?_)
    | (with_reducible apply awp_join)
    | (with_reducible refine CallZ.l (PCall.kf (hlog) ?_ ?_))
    | (with_reducible refine PCall.kf (hlog) ?_ ?_)
    | (with_reducible refine PCall.df (hlog) ?_ ?_)
    | (with_reducible refine CallZ.l (PCall.kf (g1) ?_ ?_))
    | (with_reducible refine PCall.kf (g1) ?_ ?_)
    | (with_reducible refine PCall.df (g1) ?_ ?_)
    | (with_reducible refine CallZ.l (PCall.kf (c1) ?_ ?_))
    | (with_reducible refine PCall.kf (c1) ?_ ?_)
    | (with_reducible refine PCall.df (c1) ?_ ?_)
    | (with_reducible refine CallZ.l (PCall.kf (c3) ?_ ?_))
    | (with_reducible refine PCall.kf (c3) ?_ ?_)
    | (with_reducible refine PCall.df (c3) ?_ ?_)
    | (with_reducible refine CallZ.l (PCall.kn (hlog) (by with_unfolding_all rfl) (by with_unfolding_all rfl) ?_))
    | (with_reducible refine PCall.kn (hlog) (by with_unfolding_all rfl) (by with_unfolding_all rfl) ?_)
    | (with_reducible refine PCall.dn (hlog) (by with_unfolding_all rfl) (by with_unfolding_all rfl) ?_)
    | (with_reducible refine CallZ.l (PCall.kn (g1) (by with_unfolding_all rfl) (by with_unfolding_all rfl) ?_))
    | (with_reducible refine PCall.kn (g1) (by with_unfolding_all rfl) (by with_unfolding_all rfl) ?_)
    | (with_reducible refine PCall.dn (g1) (by with_unfolding_all rfl) (by with_unfolding_all rfl) ?_)
    | (with_reducible refine CallZ.l (PCall.kn (c1) (by with_unfolding_all rfl) (by with_unfolding_all rfl) ?_))
    | (with_reducible refine PCall.kn (c1) (by with_unfolding_all rfl) (by with_unfolding_all rfl) ?_)
    | (with_reducible refine PCall.dn (c1) (by with_unfolding_all rfl) (by with_unfolding_all rfl) ?_)
    | (with_reducible refine CallZ.l (PCall.kn (c3) (by with_unfolding_all rfl) (by with_unfolding_all rfl) ?_))
    | (with_reducible refine PCall.kn (c3) (by with_unfolding_all rfl) (by with_unfolding_all rfl) ?_)
    | (with_reducible refine PCall.dn (c3) (by with_unfolding_all rfl) (by with_unfolding_all rfl) ?_)
    | ((with_reducible refine PCall.dz (hlog) (by with_unfolding_all rfl) (by with_unfolding_all rfl) ?_); rotate_right; rintro zh1 zq1; (try simp -dsimp [go_sem] at zq1); obtain ⟨rfl⟩ := zq1)
    | ((with_reducible refine PCall.dz (g1) (by with_unfolding_all rfl) (by with_unfolding_all rfl) ?_); rotate_right; rintro zh1 zq1; (try simp -dsimp [go_sem] at zq1); obtain ⟨rfl⟩ := zq1)
    | ((with_reducible refine PCall.dz (c1) (by with_unfolding_all rfl) (by with_unfolding_all rfl) ?_); rotate_right; rintro zh1 zq1; (try simp -dsimp [go_sem] at zq1); obtain ⟨rfl⟩ := zq1)
    | ((with_reducible refine PCall.dz (c3) (by with_unfolding_all rfl) (by with_unfolding_all rfl) ?_); rotate_right; rintro zh1 zq1; (try simp -dsimp [go_sem] at zq1); obtain ⟨rfl⟩ := zq1)
    | (with_reducible refine CallZ.z ?_)
    | (simp -dsimp [go_sem]))
  · repeat' (first
    | (with_reducible refine Cnd.intro (fun h => ?_) (fun h => ?_))
    | (with_reducible refine And.intro ?_ ?_)
    | (with_reducible refine Wk.refl ?_)
    | (with_reducible exact Weak.refl _ _)
    | (with_reducible refine weak_auto ?_)
    | (with_reducible apply awp_join)
    | (with_reducible refine CallZ.l (PCall.kf (hlog) ?_ ?_))
    | (with_reducible refine PCall.kf (hlog) ?_ ?_)
    | (with_reducible refine PCall.df (hlog) ?_ ?_)
    | (with_reducible refine CallZ.l (PCall.kf (g2) ?_ ?_))
    | (with_reducible refine PCall.kf (g2) ?_ ?_)
    | (with_reducible refine PCall.df (g2) ?_ ?_)
    | (with_reducible refine CallZ.l (PCall.kf (c2) ?_ ?_))
    | (with_reducible refine PCall.kf (c2) ?_ ?_)
    | (with_reducible refine PCall.df (c2) ?_ ?_)
    | (with_reducible refine CallZ.l (PCall.kf (c3) ?_ ?_))
    | (with_reducible refine PCall.kf (c3) ?_ ?_)
    | (with_reducible refine PCall.df (c3) ?_ ?_)
    | (with_reducible refine CallZ.l (PCall.kn (hlog) (by with_unfolding_all rfl) (by with_unfolding_all rfl) ?_))
    | (with_reducible refine PCall.kn (hlog) (by with_unfolding_all rfl) (by with_unfolding_all rfl) ?_)
    | (with_reducible refine PCall.dn (hlog) (by with_unfolding_all rfl) (by with_unfolding_all rfl) ?_)
    | (with_reducible refine CallZ.l (PCall.kn (g2) (by with_unfolding_all rfl) (by with_unfolding_all rfl) ?_))
    | (with_reducible refine PCall.kn (g2) (by with_unfolding_all rfl) (by with_unfolding_all rfl) ?_)
    | (with_reducible refine PCall.dn (g2) (by with_unfolding_all rfl) (by with_unfolding_all rfl) ?_)
    | (with_reducible refine CallZ.l (PCall.kn (c2) (by with_unfolding_all rfl) (by with_unfolding_all rfl) ?_))
    | (with_reducible refine PCall.kn (c2) (by with_unfolding_all rfl) (by with_unfolding_all rfl) ?_)
    | (with_reducible refine PCall.dn (c2) (by with_unfolding_all rfl) (by with_unfolding_all rfl) ?_)
    | (with_reducible refine CallZ.l (PCall.kn (c3) (by with_unfolding_all rfl) (by with_unfolding_all rfl) ?_))
    | (with_reducible refine PCall.kn (c3) (by with_unfolding_all rfl) (by with_unfolding_all rfl) ?_)
    | (with_reducible refine PCall.dn (c3) (by with_unfolding_all rfl) (by with_unfolding_all rfl) ?_)
    | ((with_reducible refine PCall.dz (hlog) (by with_unfolding_all rfl) (by with_unfolding_all rfl) ?_); rotate_right; rintro zh1 zq1; (try simp -dsimp [go_sem] at zq1); obtain ⟨rfl⟩ := zq1)
    | ((with_reducible refine PCall.dz (g2) (by with_unfolding_all rfl) (by with_unfolding_all rfl) ?_); rotate_right; rintro zh1 zq1; (try simp -dsimp [go_sem] at zq1); obtain ⟨rfl⟩ := zq1)
    | ((with_reducible refine PCall.dz (c2) (by with_unfolding_all rfl) (by with_unfolding_all rfl) ?_); rotate_right; rintro zh1 zq1; (try simp -dsimp [go_sem] at zq1); obtain ⟨rfl⟩ := zq1)
    | ((with_reducible refine PCall.dz (c3) (by with_unfolding_all rfl) (by with_unfolding_all rfl) ?_); rotate_right; rintro zh1 zq1; (try simp -dsimp [go_sem] at zq1); obtain ⟨rfl⟩ := zq1)
    | (with_reducible refine CallZ.z ?_)
    | (simp -dsimp [go_sem]))
theorem logFull_c (n : Int) (hn : i64 n) : PCall Try.prog G 8 [iV n] (bV true) := by
  have hk := pk_range (n := n) (m := 400) (by omega)
  obtain ⟨k, hk'⟩ : ∃ k : Nat, pk n 400 = k := ⟨(pk n 400).toNat, by omega⟩
  rw [hk'] at hk
  obtain ⟨m, hm⟩ : ∃ m : Nat, (if 200 < (k : Int) then (200 : Int) else k) = m := ⟨(if 200 < (k : Int) then (200 : Int) else k).toNat, by split <;> omega⟩
  have hm2 : m ≤ 200 ∧ m ≤ k := by split at hm <;> omega
  have termOf : PCall Try.prog G 28 [iV m] (iV (if m = 0 then 0 else 1)) := by
    refine pcall mixed Try.func28 ok_rostrumkeep_termOf rs_rostrumkeep_termOf (by simp [Try.f28]) ?_
    unfold ac_rostrumkeep_termOf
    repeat' (first
    | (with_reducible refine Cnd.intro (fun h => ?_) (fun h => ?_))
    | (with_reducible refine And.intro ?_ ?_)
    | (with_reducible refine Wk.refl ?_)
    | (with_reducible exact Weak.refl _ _)
    | (with_reducible refine weak_auto ?_)
    | (with_reducible apply awp_join)
    | (with_reducible refine CallZ.z ?_)
    | (simp -dsimp [go_sem]))
    all_goals (split <;> split <;> omega)
  have ok : checkLog 0 0 (List.replicate m (nopI 1 0)) = 0 := by
    rw [checkLog_iff]
    exact ⟨by omega, by omega, by omega, by omega, by simp; omega, by simp; omega, chk_nops (by omega) (by omega) m 0 (by omega)⟩
  have hend := (end_nops 1 m 0 0).1
  have hone : checkLog (0 + m) (endT 0 ((List.replicate m (nopI 1 0)).take m)) [nopI 1 0] = 0 := by
    rw [List.take_of_length_le (by simp), hend, checkLog_iff, chk_cons]
    refine ⟨by omega, by split <;> omega, by split <;> omega, by split <;> omega, by simp, by simp; omega, nop_ok (by omega) (by omega) (by omega) (by omega), by split <;> simp, by simp, rfl⟩
  have hfn : firstNew (List.replicate m (nopI 1 0)) m [nopI 1 0] 0 = some 0 := by
    unfold firstNew
    rw [List.getElem?_eq_none (by simp)]
    rfl
  refine pcall mixed Try.func8 ok_rostrumkeep_LogFull rs_rostrumkeep_LogFull (by simp [Try.f8]) ?_
  unfold ac_rostrumkeep_LogFull
  repeat' (first
    | (with_reducible refine Cnd.intro (fun h => ?_) (fun h => ?_))
    | (with_reducible refine And.intro ?_ ?_)
    | (with_reducible refine Wk.refl ?_)
    | (with_reducible exact Weak.refl _ _)
    | (with_reducible refine weak_auto ?_)
    | (with_reducible apply awp_join)
    | (with_reducible refine CallZ.l (PCall.kf (picked_c _ _ (by assumption) (by decide)) ?_ ?_))
    | (with_reducible refine PCall.kf (picked_c _ _ (by assumption) (by decide)) ?_ ?_)
    | (with_reducible refine PCall.df (picked_c _ _ (by assumption) (by decide)) ?_ ?_)
    | (with_reducible refine CallZ.l (PCall.kn (picked_c _ _ (by assumption) (by decide)) (by with_unfolding_all rfl) (by with_unfolding_all rfl) ?_))
    | (with_reducible refine PCall.kn (picked_c _ _ (by assumption) (by decide)) (by with_unfolding_all rfl) (by with_unfolding_all rfl) ?_)
    | (with_reducible refine PCall.dn (picked_c _ _ (by assumption) (by decide)) (by with_unfolding_all rfl) (by with_unfolding_all rfl) ?_)
    | ((with_reducible refine PCall.dz (picked_c _ _ (by assumption) (by decide)) (by with_unfolding_all rfl) (by with_unfolding_all rfl) ?_); rotate_right; rintro zh1 zq1; (try simp -dsimp [go_sem] at zq1); obtain ⟨rfl⟩ := zq1)
    | (with_reducible refine CallZ.z ?_)
    | (simp -dsimp [go_sem, hk']))
  refine awp_loop (fun i : Nat => ⟨[(3, iV k), (4, .one (.ar 0)), (5, iV i)], G, [some (.arr 31 10 (List.replicate i (nopI 1 0).row))]⟩) (fun i => i ≤ m) (fun i => m - i) 0 (Weak.trans (weak_nil 4 31 10 ?_ (by omega)) (weak_auto ?_)) (Nat.zero_le _) ?_
  · simp -dsimp [go_sem]
  · simp -dsimp [go_sem]
  · intro i hi
    have e1 : IntKind.i64.wrap ((i : Int) + 1) = i + 1 := IntWalk.i64_in _ (by omega)
    simp -dsimp [go_sem, hm]
    refine Cnd.intro (fun h => ?_) (fun h => ?_)
    · have hlt : i < m := by simp at h; omega
      repeat' (first
    | (with_reducible refine Cnd.intro (fun h => ?_) (fun h => ?_))
    | (with_reducible refine And.intro ?_ ?_)
    | (with_reducible refine Wk.refl ?_)
    | (with_reducible exact Weak.refl _ _)
    | (with_reducible refine weak_auto ?_)
    | (with_reducible apply awp_join)
    | (with_reducible refine CallZ.z ?_)
    | (simp -dsimp [go_sem, e1]))
      all_goals first
        | omega
        | (with_reducible refine Again.auto (i + 1) ?_ ?_ ?_)
        | (simp [UL]; done)
        | skip
      · simp -dsimp [go_sem, List.replicate_succ', Item.row]
      · exact hlt
      · show m - (i + 1) < m - i
        omega
    · have hij : i = m := by simp at h; omega
      subst hij
      have u1 := ul_rows (List.replicate i (nopI 1 0))
      have e2 : IntKind.i64.wrap ((k : Int) + 1) = k + 1 := IntWalk.i64_in _ (by omega)
      have hfe := matchSome_c (G := G) (k := i) (its := [nopI 1 0]) ok (by simp) hone hfn
      have hff := matchFull_c (G := G) (k := i) (its := [nopI 1 0]) ok (by simp) hone hfn
      have ht : (List.replicate i (nopI 1 0)).take i = List.replicate i (nopI 1 0) := List.take_of_length_le (by simp)
      have e0 : (0 : Int) + i = i := by omega
      simp only [Nat.add_zero, ht, hend, e0, logC, rowsV, List.map_replicate, List.map_append, List.map_cons, List.map_nil, Item.row, List.drop_zero] at hfe hff
      by_cases h200 : 200 ≤ (k : Int)
      · have hi200 : i = 200 := by split at hm <;> omega
        have hff := hff (by
          rw [checkLog_iff]; intro hh; simp at hh; omega)
        have d200 : decide ((k : Int) ≥ 200) = true := by simp; omega
        repeat' (first
    | (with_reducible refine Cnd.intro (fun h => ?_) (fun h => ?_))
    | (with_reducible refine And.intro ?_ ?_)
    | (with_reducible refine Wk.refl ?_)
    | (with_reducible exact Weak.refl _ _)
    | (with_reducible refine weak_auto ?_)
    | (with_reducible apply awp_join)
    | (with_reducible refine CallZ.l (PCall.kf (termOf) ?_ ?_))
    | (with_reducible refine PCall.kf (termOf) ?_ ?_)
    | (with_reducible refine PCall.df (termOf) ?_ ?_)
    | (with_reducible refine CallZ.l (PCall.kf (hff) ?_ ?_))
    | (with_reducible refine PCall.kf (hff) ?_ ?_)
    | (with_reducible refine PCall.df (hff) ?_ ?_)
    | (with_reducible refine CallZ.l (PCall.kn (termOf) (by with_unfolding_all rfl) (by with_unfolding_all rfl) ?_))
    | (with_reducible refine PCall.kn (termOf) (by with_unfolding_all rfl) (by with_unfolding_all rfl) ?_)
    | (with_reducible refine PCall.dn (termOf) (by with_unfolding_all rfl) (by with_unfolding_all rfl) ?_)
    | (with_reducible refine CallZ.l (PCall.kn (hff) (by with_unfolding_all rfl) (by with_unfolding_all rfl) ?_))
    | (with_reducible refine PCall.kn (hff) (by with_unfolding_all rfl) (by with_unfolding_all rfl) ?_)
    | (with_reducible refine PCall.dn (hff) (by with_unfolding_all rfl) (by with_unfolding_all rfl) ?_)
    | ((with_reducible refine PCall.dz (termOf) (by with_unfolding_all rfl) (by with_unfolding_all rfl) ?_); rotate_right; rintro zh1 zq1; (try simp -dsimp [go_sem] at zq1); obtain ⟨rfl⟩ := zq1)
    | ((with_reducible refine PCall.dz (hff) (by with_unfolding_all rfl) (by with_unfolding_all rfl) ?_); rotate_right; rintro zh1 zq1; (try simp -dsimp [go_sem] at zq1); obtain ⟨rfl⟩ := zq1)
    | (with_reducible refine CallZ.z ?_)
    | (simp -dsimp [go_sem, h200]))
      · have hik : (i : Int) = k := by split at hm <;> omega
        have hfe := hfe (by
          rw [checkLog_iff, chk_app, hend]
          refine ⟨by omega, by omega, by omega, by omega, by simp; omega, by simp; omega, chk_nops (by omega) (by omega) i 0 (by omega), ?_⟩
          rw [chk_cons]
          have h0 := (end_nops 1 i 0 0).2
          rw [h0]
          exact ⟨nop_ok (by omega) (by omega) (by omega) (by omega), by split <;> simp, by split <;> simp, rfl⟩)
        rw [← hik] at e2 h200
        have h200' : ¬ 200 ≤ (i : Int) := h200
        repeat' (first
    | (with_reducible refine Cnd.intro (fun h => ?_) (fun h => ?_))
    | (with_reducible refine And.intro ?_ ?_)
    | (with_reducible refine Wk.refl ?_)
    | (with_reducible exact Weak.refl _ _)
    | (with_reducible refine weak_auto ?_)
    | (with_reducible apply awp_join)
    | (with_reducible refine CallZ.l (PCall.kf (termOf) ?_ ?_))
    | (with_reducible refine PCall.kf (termOf) ?_ ?_)
    | (with_reducible refine PCall.df (termOf) ?_ ?_)
    | (with_reducible refine CallZ.l (PCall.kf (hfe) ?_ ?_))
    | (with_reducible refine PCall.kf (hfe) ?_ ?_)
    | (with_reducible refine PCall.df (hfe) ?_ ?_)
    | (with_reducible refine CallZ.l (PCall.kn (termOf) (by with_unfolding_all rfl) (by with_unfolding_all rfl) ?_))
    | (with_reducible refine PCall.kn (termOf) (by with_unfolding_all rfl) (by with_unfolding_all rfl) ?_)
    | (with_reducible refine PCall.dn (termOf) (by with_unfolding_all rfl) (by with_unfolding_all rfl) ?_)
    | (with_reducible refine CallZ.l (PCall.kn (hfe) (by with_unfolding_all rfl) (by with_unfolding_all rfl) ?_))
    | (with_reducible refine PCall.kn (hfe) (by with_unfolding_all rfl) (by with_unfolding_all rfl) ?_)
    | (with_reducible refine PCall.dn (hfe) (by with_unfolding_all rfl) (by with_unfolding_all rfl) ?_)
    | ((with_reducible refine PCall.dz (termOf) (by with_unfolding_all rfl) (by with_unfolding_all rfl) ?_); rotate_right; rintro zh1 zq1; (try simp -dsimp [go_sem] at zq1); obtain ⟨rfl⟩ := zq1)
    | ((with_reducible refine PCall.dz (hfe) (by with_unfolding_all rfl) (by with_unfolding_all rfl) ?_); rotate_right; rintro zh1 zq1; (try simp -dsimp [go_sem] at zq1); obtain ⟨rfl⟩ := zq1)
    | (with_reducible refine CallZ.z ?_)
    | (simp -dsimp [go_sem, e2, h200', hik.symm]))
end Go.Proofs.Ytniihihcklpdgaa
