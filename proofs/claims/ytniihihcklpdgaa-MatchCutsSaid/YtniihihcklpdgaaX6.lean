/- The function MatchCuts answers true. -/
import Derived.Test.YtniihihcklpdgaaX5
set_option linter.unusedVariables false
set_option linter.unusedSimpArgs false
set_option maxRecDepth 100000
set_option maxHeartbeats 8000000
namespace Go.Proofs.Ytniihihcklpdgaa
open Go Go.RowKit Go.Proofs.AE
variable {G : Nat → AV}
theorem ends_rise : ∀ {l : List Item} {t m : Int}, chk l t m = true → ∀ (k : Nat) y, l[k]? = some y → y.check = 0 ∧ endT t (l.take k) ≤ y.term ∧ endM m (l.take k) ≤ y.time ∧ y.term ≤ endT t l
  | [], _, _, _, k, y, hk => by simp at hk
  | x :: l, t, m, h, 0, y, hk => by
    simp at hk
    subst hk
    rw [chk_cons] at h
    exact ⟨h.1, h.2.1, h.2.2.1, (endT_bound h.2.2.2).1⟩
  | x :: l, t, m, h, k + 1, y, hk => by
    rw [chk_cons] at h
    exact ends_rise h.2.2.2 k y (by simpa using hk)
theorem check_term {y : Item} (h : y.check = 0) {t : Int} (h1 : 1 ≤ t) (h2 : t ≤ 1048576) : ({ y with term := t } : Item).check = 0 := by
  have hy := check_ok h
  unfold Item.check checkItem at h ⊢
  simp only at h ⊢
  have a1 : ¬ t < 1 := by omega
  have a2 : ¬ 1048576 < t := by omega
  have b1 : ¬ y.term < 1 := by omega
  have b2 : ¬ 1048576 < y.term := by omega
  simp only [a1, a2, b1, b2, decide_false, if_false, Bool.false_eq_true] at h ⊢
  exact h
def d0 : Deed := ⟨0, 0, 0, 0, 0, 0, 0, ⟨#[]⟩⟩
theorem d0_ok : d0.Ok := by constructor <;> (unfold i64 d0; simp)
theorem ul_deeds (l : List Deed) : UL 8 (l.map Deed.row) := by
  intro r hr
  obtain ⟨y, _, rfl⟩ := List.mem_map.1 hr
  rfl
theorem matchCuts_c (l : List Deed) (base at' : Int) (hl : (l.length : Int) ≤ 9223372036854775807) (hd : ∀ d ∈ l, d.Ok) (hb : i64 base) (ha : i64 at') :
    PCall Try.prog G 11 [.one (.v (.sl (l.map Deed.row))), iV base, iV at'] (bV true) := by
  obtain ⟨M, hM⟩ : ∃ M : Nat, (if (29 : Int) < (l.length : Int) then (29 : Int) else (l.length : Int)) = M := by
    split
    · exact ⟨29, rfl⟩
    · exact ⟨l.length, rfl⟩
  have hM2 : M ≤ 29 ∧ M ≤ l.length := by split at hM <;> omega
  obtain ⟨l', hl'⟩ : ∃ l', l.take M ++ [d0] = l' := ⟨_, rfl⟩
  have hlen : l'.length = M + 1 := by rw [← hl']; simp; omega
  have hd' : ∀ d ∈ l', d.Ok := by
    intro d h
    rw [← hl'] at h
    rcases List.mem_append.1 h with h | h
    · exact hd d (List.mem_of_mem_take h)
    · simp at h; subst h; exact d0_ok
  have hrows : List.map Deed.row (l.take M) ++ [[V.lit (.int .i64 0), V.lit (.int .i64 0), V.lit (.int .i64 0), V.lit (.int .i64 0), V.lit (.int .i64 0), V.lit (.int .i64 0), V.lit (.int .i64 0), V.lit (.string ⟨#[]⟩)]] = l'.map Deed.row := by
    rw [← hl', List.map_append]; rfl
  obtain ⟨B, T, X, hlog, ok, hX, hB0, hB1, hBe, hTe, hXe⟩ := log_x l' base (by omega) hd' hb
  have hlog := hlog G
  have hXl : X.length = M + 1 := by
    rw [hXe]
    unfold logItems itemsOf
    rw [itemsGo_length, List.length_take, hlen]; omega
  have hbd : ∀ y ∈ X, 1 ≤ y.term ∧ y.term ≤ 40 ∧ 0 ≤ y.time ∧ y.time ≤ 60 := by rw [hXe]; exact made_bound l' base
  have hul := ul_rows X
  have hul8 := ul_deeds (l.take M)
  have hul9 := ul_deeds l
  have hulz : UL 8 [[V.lit (.int .i64 0), V.lit (.int .i64 0), V.lit (.int .i64 0), V.lit (.int .i64 0), V.lit (.int .i64 0), V.lit (.int .i64 0), V.lit (.int .i64 0), V.lit (.string ⟨#[]⟩)]] := ul_deeds [d0]
  have hk := pk_range (n := at') (m := (X.length : Int)) (by omega)
  obtain ⟨k, hk'⟩ : ∃ k : Nat, pk at' (X.length : Int) = k := ⟨(pk at' (X.length : Int)).toNat, by omega⟩
  rw [hk'] at hk
  have hkl : k < X.length := by omega
  obtain ⟨y, hy⟩ : ∃ y, X[k]? = some y := ⟨_, List.getElem?_eq_getElem hkl⟩
  obtain ⟨z, hz⟩ : ∃ z, X[X.length - 1]? = some z := ⟨_, List.getElem?_eq_getElem (by omega)⟩
  have hzt : endT T X = z.term := by rw [endT_get, hz]
  have hzb := hbd z (List.mem_of_getElem? hz)
  have hyb := hbd y (List.mem_of_getElem? hy)
  obtain ⟨c1, c2, c3, c4, c5, c6, c7⟩ := (checkLog_iff _ _ _).1 ok
  obtain ⟨r1, r2, r3, r4⟩ := ends_rise c7 k y hy
  rw [hzt] at r4
  obtain ⟨x, hx⟩ : ∃ x : Item, ({ y with term := z.term + 1 } : Item) = x := ⟨_, rfl⟩
  have hxt : x.term = z.term + 1 := by rw [← hx]
  have hxr : x.row = [iL (z.term + 1), iL y.time, .lit (.bool y.nop), iL y.client, iL y.seq, iL y.k, sL y.key, sL y.field, sL y.text, iL y.n] := by rw [← hx]; rfl
  have hxc : x.check = 0 := by rw [← hx]; exact check_term r1 (by omega) (by omega)
  have hxm : x.time = y.time := by rw [← hx]
  have htk : X.take k ++ X.drop k = X := List.take_append_drop k X
  have c8 : chk (X.take k) T 0 = true := by rw [← htk, chk_app] at c7; exact c7.1
  obtain ⟨p1, p2, p3⟩ := endT_bound c8
  have tl : (X.take k).length = k := by rw [List.length_take]; omega
  -- behind the cut
  have ok2 : checkLog B T (X.take k ++ [x]) = 0 := by
    rw [checkLog_iff, chk_app, chk_cons]
    refine ⟨c1, c2, c3, c4, by simp; omega, by simp; omega, c8, hxc, by omega, by omega, rfl⟩
  have hpre := checkLog_drop ok2 (k := k) (by simp; omega)
  rw [List.take_left' tl, List.drop_left' tl] at hpre
  have f1 : firstNew X k [x] 0 = some 0 := by
    unfold firstNew
    rw [hy]
    have : (y.term == x.term) = false := by rw [hxt]; simp; omega
    simp [this]
  have g1 := matchSome_c (G := G) (k := k) (its := [x]) ok (by omega) hpre f1 (by simpa using ok2)
  have hY : (X.take k ++ [x])[k]? = some x := by rw [List.getElem?_append_right (by omega), tl]; simp
  have f2 : firstNew (X.take k ++ [x]) k [x] 0 = none := by
    unfold firstNew
    rw [hY]
    simp [firstNew]
  have g2 := matchNone_c (G := G) (k := k) (its := [x]) ok2 (by simp; omega) (by rw [List.take_left' tl]; exact hpre) f2
  rw [List.take_left' tl] at g2
  simp only [Nat.add_zero, List.drop_zero, Int.natCast_zero, Int.add_zero] at g1
  have t1 : termErr B X.length (B + k) = 0 := termErr_ok (by omega)
  have t2 : termAt B T X (B + k) = endT T (X.take k) := termAt_take (by omega)
  have g3 := termGood_c (G := G) B T X (B + k) ok (by omega)
  rw [t1, t2] at g3
  obtain ⟨Y, hYe⟩ : ∃ Y, X.take k ++ [x] = Y := ⟨_, rfl⟩
  have hYl : Y.length = k + 1 := by rw [← hYe, List.length_append, tl]; rfl
  have hYk : Y.take k = X.take k := by rw [← hYe]; exact List.take_left' tl
  have hYg : ∀ h, Y[k]'h = x := fun h => by
    have := hY
    rw [hYe, List.getElem?_eq_getElem h] at this
    exact Option.some.inj this
  have hYx : (Y.map Item.row)[k]? = some x.row := by rw [← hYe, List.getElem?_map, hY]; rfl
  rw [hYe] at g1 g2
  have hs := sameLog_c (G := G) B T Y B T Y (by omega)
  have hsi := sameItems_c (G := G) (X.take k) (X.take k) (by omega)
  have e1 : IntKind.i64.wrap (B + k) = B + k := IntWalk.i64_in _ (by omega)
  have e2 : IntKind.i64.wrap (B + k + 1) = B + k + 1 := IntWalk.i64_in _ (by omega)
  have e3 : IntKind.i64.wrap ((X.length : Int) - 1) = X.length - 1 := IntWalk.i64_in _ (by omega)
  have e4 : IntKind.i64.wrap (z.term + 1) = z.term + 1 := IntWalk.i64_in _ (by omega)
  have e5 : IntKind.i64.wrap ((k : Int) + 1) = (k : Int) + 1 := IntWalk.i64_in _ (by omega)
  have e6 : ((X.length : Int) - 1).toNat = X.length - 1 := by omega
  have q0 : (X.length : Int) ≠ 0 := by omega
  have ulY := ul_rows Y
  have eM : (M : Int).toNat = M := by omega
  have hpk := picked_c (G := G) at' X.length ha q0
  rw [hk'] at hpk
  simp only [logC, matchV, rowsV, List.map_cons, List.map_nil, hxr] at hlog g1 g2 g3 hs
  refine pcall mixed Try.func11 ok_rostrumkeep_MatchCuts rs_rostrumkeep_MatchCuts (by simp [Try.f11]) ?_
  unfold ac_rostrumkeep_MatchCuts
  repeat' (first
    | (with_reducible refine Cnd.intro (fun h => ?_) (fun h => ?_))
    | (with_reducible refine And.intro ?_ ?_)
    | (with_reducible refine Wk.refl ?_)
    | (with_reducible exact Weak.refl _ _)
    | (with_reducible refine weak_auto ?_)
    | (with_reducible apply awp_join)
    | (with_reducible refine CallZ.l (PCall.kf (hlog) ?_ ?_))
    | (with_reducible refine PCall.kf (hlog) ?_ ?_)
    | (with_reducible refine PCall.df (hlog) ?_ ?_)
    | (with_reducible refine CallZ.l (PCall.kf (hpk) ?_ ?_))
    | (with_reducible refine PCall.kf (hpk) ?_ ?_)
    | (with_reducible refine PCall.df (hpk) ?_ ?_)
    | (with_reducible refine CallZ.l (PCall.kf (g3) ?_ ?_))
    | (with_reducible refine PCall.kf (g3) ?_ ?_)
    | (with_reducible refine PCall.df (g3) ?_ ?_)
    | (with_reducible refine CallZ.l (PCall.kf (g1) ?_ ?_))
    | (with_reducible refine PCall.kf (g1) ?_ ?_)
    | (with_reducible refine PCall.df (g1) ?_ ?_)
    | (with_reducible refine CallZ.l (PCall.kf (g2) ?_ ?_))
    | (with_reducible refine PCall.kf (g2) ?_ ?_)
    | (with_reducible refine PCall.df (g2) ?_ ?_)
    | (with_reducible refine CallZ.l (PCall.kf (hs) ?_ ?_))
    | (with_reducible refine PCall.kf (hs) ?_ ?_)
    | (with_reducible refine PCall.df (hs) ?_ ?_)
    | (with_reducible refine CallZ.l (PCall.kf (hsi) ?_ ?_))
    | (with_reducible refine PCall.kf (hsi) ?_ ?_)
    | (with_reducible refine PCall.df (hsi) ?_ ?_)
    | (with_reducible refine CallZ.l (PCall.kf (hsi) ?_ ?_))
    | (with_reducible refine PCall.kf (hsi) ?_ ?_)
    | (with_reducible refine PCall.df (hsi) ?_ ?_)
    | (with_reducible refine CallZ.l (PCall.kn (hlog) (by with_unfolding_all rfl) (by with_unfolding_all rfl) ?_))
    | (with_reducible refine PCall.kn (hlog) (by with_unfolding_all rfl) (by with_unfolding_all rfl) ?_)
    | (with_reducible refine PCall.dn (hlog) (by with_unfolding_all rfl) (by with_unfolding_all rfl) ?_)
    | (with_reducible refine CallZ.l (PCall.kn (hpk) (by with_unfolding_all rfl) (by with_unfolding_all rfl) ?_))
    | (with_reducible refine PCall.kn (hpk) (by with_unfolding_all rfl) (by with_unfolding_all rfl) ?_)
    | (with_reducible refine PCall.dn (hpk) (by with_unfolding_all rfl) (by with_unfolding_all rfl) ?_)
    | (with_reducible refine CallZ.l (PCall.kn (g3) (by with_unfolding_all rfl) (by with_unfolding_all rfl) ?_))
    | (with_reducible refine PCall.kn (g3) (by with_unfolding_all rfl) (by with_unfolding_all rfl) ?_)
    | (with_reducible refine PCall.dn (g3) (by with_unfolding_all rfl) (by with_unfolding_all rfl) ?_)
    | (with_reducible refine CallZ.l (PCall.kn (g1) (by with_unfolding_all rfl) (by with_unfolding_all rfl) ?_))
    | (with_reducible refine PCall.kn (g1) (by with_unfolding_all rfl) (by with_unfolding_all rfl) ?_)
    | (with_reducible refine PCall.dn (g1) (by with_unfolding_all rfl) (by with_unfolding_all rfl) ?_)
    | (with_reducible refine CallZ.l (PCall.kn (g2) (by with_unfolding_all rfl) (by with_unfolding_all rfl) ?_))
    | (with_reducible refine PCall.kn (g2) (by with_unfolding_all rfl) (by with_unfolding_all rfl) ?_)
    | (with_reducible refine PCall.dn (g2) (by with_unfolding_all rfl) (by with_unfolding_all rfl) ?_)
    | (with_reducible refine CallZ.l (PCall.kn (hs) (by with_unfolding_all rfl) (by with_unfolding_all rfl) ?_))
    | (with_reducible refine PCall.kn (hs) (by with_unfolding_all rfl) (by with_unfolding_all rfl) ?_)
    | (with_reducible refine PCall.dn (hs) (by with_unfolding_all rfl) (by with_unfolding_all rfl) ?_)
    | (with_reducible refine CallZ.l (PCall.kn (hsi) (by with_unfolding_all rfl) (by with_unfolding_all rfl) ?_))
    | (with_reducible refine PCall.kn (hsi) (by with_unfolding_all rfl) (by with_unfolding_all rfl) ?_)
    | (with_reducible refine PCall.dn (hsi) (by with_unfolding_all rfl) (by with_unfolding_all rfl) ?_)
    | (with_reducible refine CallZ.l (PCall.kn (hsi) (by with_unfolding_all rfl) (by with_unfolding_all rfl) ?_))
    | (with_reducible refine PCall.kn (hsi) (by with_unfolding_all rfl) (by with_unfolding_all rfl) ?_)
    | (with_reducible refine PCall.dn (hsi) (by with_unfolding_all rfl) (by with_unfolding_all rfl) ?_)
    | ((with_reducible refine PCall.dz (hlog) (by with_unfolding_all rfl) (by with_unfolding_all rfl) ?_); rotate_right; rintro zh1 zq1; (try simp -dsimp [go_sem] at zq1); obtain ⟨rfl⟩ := zq1)
    | ((with_reducible refine PCall.dz (hpk) (by with_unfolding_all rfl) (by with_unfolding_all rfl) ?_); rotate_right; rintro zh1 zq1; (try simp -dsimp [go_sem] at zq1); obtain ⟨rfl⟩ := zq1)
    | ((with_reducible refine PCall.dz (g3) (by with_unfolding_all rfl) (by with_unfolding_all rfl) ?_); rotate_right; rintro zh1 zq1; (try simp -dsimp [go_sem] at zq1); obtain ⟨rfl⟩ := zq1)
    | ((with_reducible refine PCall.dz (g1) (by with_unfolding_all rfl) (by with_unfolding_all rfl) ?_); rotate_right; rintro zh1 zq1; (try simp -dsimp [go_sem] at zq1); obtain ⟨rfl⟩ := zq1)
    | ((with_reducible refine PCall.dz (g2) (by with_unfolding_all rfl) (by with_unfolding_all rfl) ?_); rotate_right; rintro zh1 zq1; (try simp -dsimp [go_sem] at zq1); obtain ⟨rfl⟩ := zq1)
    | ((with_reducible refine PCall.dz (hs) (by with_unfolding_all rfl) (by with_unfolding_all rfl) ?_); rotate_right; rintro zh1 zq1; (try simp -dsimp [go_sem] at zq1); obtain ⟨rfl⟩ := zq1)
    | ((with_reducible refine PCall.dz (hsi) (by with_unfolding_all rfl) (by with_unfolding_all rfl) ?_); rotate_right; rintro zh1 zq1; (try simp -dsimp [go_sem] at zq1); obtain ⟨rfl⟩ := zq1)
    | ((with_reducible refine PCall.dz (hsi) (by with_unfolding_all rfl) (by with_unfolding_all rfl) ?_); rotate_right; rintro zh1 zq1; (try simp -dsimp [go_sem] at zq1); obtain ⟨rfl⟩ := zq1)
    | (with_reducible refine CallZ.z ?_)
    | (simp -dsimp [go_sem, hM, eM, hrows, e1, e2, e3, e4, e5, e6, hy, hz, hxr, hYx, hYl, Item.row, ← List.map_take, hYk]))
  all_goals first | omega | assumption | (rw [hYg, ← hx])
end Go.Proofs.Ytniihihcklpdgaa
