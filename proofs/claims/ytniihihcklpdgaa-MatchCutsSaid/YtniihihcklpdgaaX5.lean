/- The function TrimMatch answers true. -/
import Derived.Test.YtniihihcklpdgaaX4
set_option linter.unusedVariables false
set_option linter.unusedSimpArgs false
set_option maxRecDepth 100000
set_option maxHeartbeats 8000000
namespace Go.Proofs.Ytniihihcklpdgaa
open Go Go.RowKit Go.Proofs.AE
variable {G : Nat → AV}
theorem trimMatch_c (l : List Deed) (base at' : Int) (more : List Deed) (hl : (l.length : Int) ≤ 9223372036854775807) (hd : ∀ d ∈ l, d.Ok) (hb : i64 base) (ha : i64 at') (hl2 : (more.length : Int) ≤ 9223372036854775807) (hd2 : ∀ d ∈ more, d.Ok) :
    PCall Try.prog G 13 [.one (.v (.sl (l.map Deed.row))), iV base, iV at', .one (.v (.sl (more.map Deed.row)))] (bV true) := by
  obtain ⟨B, T, X, hlog, ok, hX, hB0, hB1, hBe, hTe, hXe⟩ := log_x l base hl hd hb
  have hlog := hlog G
  have hbd : ∀ y ∈ X, 1 ≤ y.term ∧ y.term ≤ 40 ∧ 0 ≤ y.time ∧ y.time ≤ 60 := by rw [hXe]; exact made_bound l base
  have hT : 0 ≤ T ∧ T ≤ 2 := by rw [hTe]; unfold logBT; split <;> omega
  have hend : 0 ≤ endT T X ∧ endT T X ≤ 40 := by
    rcases endT_mem X T with h | ⟨y, hy, h⟩
    · omega
    · have := hbd y hy; omega
  have hM : 0 ≤ endM 0 X ∧ endM 0 X ≤ 60 := by
    rcases endM_mem X 0 with h | ⟨y, hy, h⟩
    · omega
    · have := hbd y hy; omega
  obtain ⟨te, hte⟩ : ∃ te, (if endT T X < 1 then 1 else endT T X) = te := ⟨_, rfl⟩
  have hteb : endT T X ≤ te ∧ 1 ≤ te ∧ te ≤ 40 := by rw [← hte]; split <;> omega
  obtain ⟨m1, m2⟩ := more_ok ok hX hbd hT.2 hB1 more hd2 te hteb
  have g0 := itemsO_c (G := G) more te hl2 hd2 (by omega)
  have hmb : ∀ y ∈ itemsOf more te, 0 ≤ y.time ∧ y.time ≤ 60 := by
    intro y hy
    unfold itemsOf at hy
    have := itemsGo_bound (more.take 30) te 0 30 (by simp; omega) y hy
    omega
  obtain ⟨ms, hms⟩ : ∃ ms, itemsOf more te = ms := ⟨_, rfl⟩
  rw [hms] at m1 m2 g0 hmb
  have hmsl : ms.length ≤ 30 := by simpa using m2
  have g1 := lastGood_c (G := G) B T X ok
  rw [lastTerm_end] at g1
  have g2 := matchEnd_c (G := G) ok m1
  have hs := sameLog_c (G := G) B T (X ++ ms.map (shiftI (endM 0 X))) B T (X ++ ms.map (shiftI (endM 0 X))) (by rw [List.length_append]; omega)
  have e1 : IntKind.i64.wrap (B + X.length + 1) = B + X.length + 1 := IntWalk.i64_in _ (by omega)
  have e2 : IntKind.i64.wrap ((X.length : Int) - 1) = X.length - 1 := IntWalk.i64_in _ (by omega)
  -- the last time
  have hlast : ∀ h : 0 < X.length, (X.map Item.row)[X.length - 1]? = some (X[X.length - 1]'(by omega)).row ∧ (X[X.length - 1]'(by omega)).time = endM 0 X := by
    intro h
    refine ⟨by rw [List.getElem?_map, List.getElem?_eq_getElem (by omega)]; rfl, ?_⟩
    rw [endM_get, List.getElem?_eq_getElem (by omega)]
  have hz : X.length = 0 → endM 0 X = 0 := fun h => by rw [List.eq_nil_of_length_eq_zero h]; rfl
  have e3 : ((X.length : Int) - 1).toNat = X.length - 1 := by omega
  have hul := ul_rows X
  have hk := pk_range (n := at') (m := (X.length : Int) + 1) (by omega)
  obtain ⟨k, hk'⟩ : ∃ k : Nat, pk at' ((X.length : Int) + 1) = k := ⟨(pk at' ((X.length : Int) + 1)).toNat, by omega⟩
  rw [hk'] at hk
  have hkl : k ≤ X.length := by omega
  have q0 : (X.length : Int) + 1 ≠ 0 := by omega
  have f1 : IntKind.i64.wrap ((X.length : Int) + 1) = X.length + 1 := IntWalk.i64_in _ (by omega)
  have f2 : IntKind.i64.wrap (B + k) = B + k := IntWalk.i64_in _ (by omega)
  have t1 : termErr B X.length (B + k) = 0 := termErr_ok (by omega)
  have t2 : termErr B X.length (B + X.length + 1) = 5 := termErr_next _ _ _ (by omega)
  have t3 := trimErr_c (G := G) B T X (B + X.length + 1) ok (by unfold i64; omega) (by rw [t2]; decide)
  rw [t2] at t3
  have ok2 := checkLog_drop ok (k := k) (by omega)
  have ht := termAt_take (base := B) (bt := T) (x := X) (k := k) (by omega)
  have c1 := trim_c (G := G) B T X (B + k) ok (by unfold i64; omega) t1
  rw [ht, show (B + (k : Int) - B).toNat = k by omega] at c1
  obtain ⟨m2', hm2⟩ : ∃ z, ms.map (shiftI (endM 0 X)) = z := ⟨_, rfl⟩
  rw [hm2] at g2 hs m2 m1
  have hXm : (X ++ m2').length = X.length + m2'.length := List.length_append
  have t5 : termErr B (X ++ m2').length (B + k) = 0 := termErr_ok (by omega)
  have c2 := trim_c (G := G) B T (X ++ m2') (B + k) m1 (by unfold i64; omega) t5
  have ht2 := termAt_take (base := B) (bt := T) (x := X ++ m2') (k := k) (by omega)
  rw [ht2, show (B + (k : Int) - B).toNat = k by omega, List.take_append_of_le_length hkl, List.drop_append_of_le_length hkl] at c2
  have m3 := checkLog_drop m1 (k := k) (by omega)
  rw [List.take_append_of_le_length hkl, List.drop_append_of_le_length hkl] at m3
  have g3 := matchEnd_c (G := G) ok2 m3
  have hdl : (X.drop k).length = X.length - k := List.length_drop
  have hend2 : endT (endT T (X.take k)) (X.drop k) = endT T X := by rw [← endT_app, List.take_append_drop]
  rw [hend2, show B + (k : Int) + ((X.drop k).length : Int) = B + X.length by omega] at g3
  have hs2 := sameLog_c (G := G) (B + k) (endT T (X.take k)) (X.drop k ++ m2') (B + k) (endT T (X.take k)) (X.drop k ++ m2') (by rw [List.length_append]; omega)
  refine pcall mixed Try.func13 ok_rostrumkeep_TrimMatch rs_rostrumkeep_TrimMatch (by simp [Try.f13]) ?_
  unfold ac_rostrumkeep_TrimMatch
  by_cases h0 : X.length = 0
  · have h0' : ¬ (0 : Int) < X.length := by omega
    have hz' := hz h0
    repeat' (first
    | (with_reducible refine Cnd.intro (fun h => ?_) (fun h => ?_))
    | (with_reducible refine And.intro ?_ ?_)
    | (with_reducible refine Wk.refl ?_)
    | (with_reducible exact Weak.refl _ _)
    | (with_reducible refine weak_auto ?_)
    | (with_reducible apply awp_join)
    | (with_reducible refine CallZ.l (PCall.kf (hlog) ?_ ?_))
    | (with_reducible refine PCall.kf (hlog) ?_ ?_)
    | (with_reducible refine PCall.df (hlog) ?_ ?_)
    | (with_reducible refine CallZ.l (PCall.kf (picked_c _ _ (by assumption) q0) ?_ ?_))
    | (with_reducible refine PCall.kf (picked_c _ _ (by assumption) q0) ?_ ?_)
    | (with_reducible refine PCall.df (picked_c _ _ (by assumption) q0) ?_ ?_)
    | (with_reducible refine CallZ.l (PCall.kf (g1) ?_ ?_))
    | (with_reducible refine PCall.kf (g1) ?_ ?_)
    | (with_reducible refine PCall.df (g1) ?_ ?_)
    | ((with_reducible refine CallZ.l (DetCall.kg (g0) (by with_unfolding_all rfl) (by with_unfolding_all rfl) (by with_unfolding_all rfl) ?_)); rotate_right; rintro zr1 zh1 zq1 zq2; (try simp -dsimp [go_sem] at zq1 zq2); obtain ⟨rfl⟩ := zq1; obtain ⟨rfl⟩ := zq2)
    | ((with_reducible refine DetCall.kg (g0) (by with_unfolding_all rfl) (by with_unfolding_all rfl) (by with_unfolding_all rfl) ?_); rotate_right; rintro zr1 zh1 zq1 zq2; (try simp -dsimp [go_sem] at zq1 zq2); obtain ⟨rfl⟩ := zq1; obtain ⟨rfl⟩ := zq2)
    | ((with_reducible refine DetCall.dg (g0) (by with_unfolding_all rfl) (by with_unfolding_all rfl) (by with_unfolding_all rfl) ?_); rotate_right; rintro zr1 zh1 zq1 zq2; (try simp -dsimp [go_sem] at zq1 zq2); obtain ⟨rfl⟩ := zq1; obtain ⟨rfl⟩ := zq2)
    | (with_reducible refine CallZ.l (PCall.kn (hlog) (by with_unfolding_all rfl) (by with_unfolding_all rfl) ?_))
    | (with_reducible refine PCall.kn (hlog) (by with_unfolding_all rfl) (by with_unfolding_all rfl) ?_)
    | (with_reducible refine PCall.dn (hlog) (by with_unfolding_all rfl) (by with_unfolding_all rfl) ?_)
    | (with_reducible refine CallZ.l (PCall.kn (picked_c _ _ (by assumption) q0) (by with_unfolding_all rfl) (by with_unfolding_all rfl) ?_))
    | (with_reducible refine PCall.kn (picked_c _ _ (by assumption) q0) (by with_unfolding_all rfl) (by with_unfolding_all rfl) ?_)
    | (with_reducible refine PCall.dn (picked_c _ _ (by assumption) q0) (by with_unfolding_all rfl) (by with_unfolding_all rfl) ?_)
    | (with_reducible refine CallZ.l (PCall.kn (g1) (by with_unfolding_all rfl) (by with_unfolding_all rfl) ?_))
    | (with_reducible refine PCall.kn (g1) (by with_unfolding_all rfl) (by with_unfolding_all rfl) ?_)
    | (with_reducible refine PCall.dn (g1) (by with_unfolding_all rfl) (by with_unfolding_all rfl) ?_)
    | ((with_reducible refine PCall.dz (hlog) (by with_unfolding_all rfl) (by with_unfolding_all rfl) ?_); rotate_right; rintro zh1 zq1; (try simp -dsimp [go_sem] at zq1); obtain ⟨rfl⟩ := zq1)
    | ((with_reducible refine PCall.dz (picked_c _ _ (by assumption) q0) (by with_unfolding_all rfl) (by with_unfolding_all rfl) ?_); rotate_right; rintro zh1 zq1; (try simp -dsimp [go_sem] at zq1); obtain ⟨rfl⟩ := zq1)
    | ((with_reducible refine PCall.dz (g1) (by with_unfolding_all rfl) (by with_unfolding_all rfl) ?_); rotate_right; rintro zh1 zq1; (try simp -dsimp [go_sem] at zq1); obtain ⟨rfl⟩ := zq1)
    | (with_reducible refine CallZ.z ?_)
    | (simp -dsimp [go_sem, hk', f1, hte, h0', e1, e2]))
    all_goals first | (exfalso; rw [decide_eq_false (show ¬ 0 < X.length by omega)] at h; cases h; done) | omega | skip
    refine awp_loop (fun st : Nat × List Item => ⟨[(9, .one (.ptr 0 0)), (10, iV k), (11, iV (B + X.length)), (12, iV (endT T X)), (13, iV 0), (14, .one (.ar 1)), (15, iV (endM 0 X)), (17, iV st.1)], G, [some (.box 41 (logC B T X)), some (.arr 31 10 (st.2.map Item.row))]⟩) (fun st => st.1 ≤ ms.length ∧ Shifted (endM 0 X) ms st.2 st.1) (fun st => ms.length - st.1) (0, ms) (weak_auto ?_) ⟨Nat.zero_le _, ⟨rfl, rfl, rfl⟩⟩ ?_
    · simp -dsimp [go_sem, hz']
    · rintro ⟨i, cur⟩ ⟨hi, hS⟩
      have hlen : cur.length = ms.length := hS.len
      simp only at hi
      simp -dsimp [go_sem]
      refine Cnd.intro (fun h => ?_) (fun h => ?_)
      · have hlt : i < cur.length := by simp at h; omega
        obtain ⟨y, hy⟩ : ∃ y, cur[i]? = some y := ⟨_, List.getElem?_eq_getElem hlt⟩
        have hyr : (cur.map Item.row)[i]? = some y.row := by rw [List.getElem?_map, hy]; rfl
        have hyb := hmb y (by
          have h1 := congrArg (fun l => l[0]?) hS.left
          simp [hy] at h1
          exact List.mem_of_getElem? h1.symm)
        have e4 : IntKind.i64.wrap ((i : Int) + 1) = i + 1 := IntWalk.i64_in _ (by omega)
        have e5 : IntKind.i64.wrap (y.time + endM 0 X) = y.time + endM 0 X := IntWalk.i64_in _ (by omega)
        repeat' (first
    | (with_reducible refine Cnd.intro (fun h => ?_) (fun h => ?_))
    | (with_reducible refine And.intro ?_ ?_)
    | (with_reducible refine Wk.refl ?_)
    | (with_reducible exact Weak.refl _ _)
    | (with_reducible refine weak_auto ?_)
    | (with_reducible apply awp_join)
    | (with_reducible refine CallZ.z ?_)
    | (simp -dsimp [go_sem, e4, e5, hyr, Item.row]))
        all_goals first
          | omega
          | (with_reducible refine Again.auto (i + 1, cur.set i (shiftI (endM 0 X) y)) ?_ ?_ ?_)
          | skip
        · simp -dsimp [go_sem, List.map_set, Item.row, shiftI]
        · exact ⟨by show i + 1 ≤ ms.length; omega, hS.next hy⟩
        · show ms.length - (i + 1) < ms.length - i
          omega
      · have hij : ms.length ≤ i := by simp at h; omega
        have hcur := hS.all hij
        simp only at hcur
        rw [hm2] at hcur
        subst hcur
        have hul2 := ul_rows cur
        simp only [logC, matchV, List.map_append] at g2 g3 hs hs2 c1 c2 t3
        repeat' (first
    | (with_reducible refine Cnd.intro (fun h => ?_) (fun h => ?_))
    | (with_reducible refine And.intro ?_ ?_)
    | (with_reducible refine Wk.refl ?_)
    | (with_reducible exact Weak.refl _ _)
    | (with_reducible refine weak_auto ?_)
    | (with_reducible apply awp_join)
    | (with_reducible refine CallZ.l (PCall.kf (t3) ?_ ?_))
    | (with_reducible refine PCall.kf (t3) ?_ ?_)
    | (with_reducible refine PCall.df (t3) ?_ ?_)
    | (with_reducible refine CallZ.l (PCall.kf (c1) ?_ ?_))
    | (with_reducible refine PCall.kf (c1) ?_ ?_)
    | (with_reducible refine PCall.df (c1) ?_ ?_)
    | (with_reducible refine CallZ.l (PCall.kf (g3) ?_ ?_))
    | (with_reducible refine PCall.kf (g3) ?_ ?_)
    | (with_reducible refine PCall.df (g3) ?_ ?_)
    | (with_reducible refine CallZ.l (PCall.kf (g2) ?_ ?_))
    | (with_reducible refine PCall.kf (g2) ?_ ?_)
    | (with_reducible refine PCall.df (g2) ?_ ?_)
    | (with_reducible refine CallZ.l (PCall.kf (c2) ?_ ?_))
    | (with_reducible refine PCall.kf (c2) ?_ ?_)
    | (with_reducible refine PCall.df (c2) ?_ ?_)
    | (with_reducible refine CallZ.l (PCall.kf (hs2) ?_ ?_))
    | (with_reducible refine PCall.kf (hs2) ?_ ?_)
    | (with_reducible refine PCall.df (hs2) ?_ ?_)
    | (with_reducible refine CallZ.l (PCall.kn (t3) (by with_unfolding_all rfl) (by with_unfolding_all rfl) ?_))
    | (with_reducible refine PCall.kn (t3) (by with_unfolding_all rfl) (by with_unfolding_all rfl) ?_)
    | (with_reducible refine PCall.dn (t3) (by with_unfolding_all rfl) (by with_unfolding_all rfl) ?_)
    | (with_reducible refine CallZ.l (PCall.kn (c1) (by with_unfolding_all rfl) (by with_unfolding_all rfl) ?_))
    | (with_reducible refine PCall.kn (c1) (by with_unfolding_all rfl) (by with_unfolding_all rfl) ?_)
    | (with_reducible refine PCall.dn (c1) (by with_unfolding_all rfl) (by with_unfolding_all rfl) ?_)
    | (with_reducible refine CallZ.l (PCall.kn (g3) (by with_unfolding_all rfl) (by with_unfolding_all rfl) ?_))
    | (with_reducible refine PCall.kn (g3) (by with_unfolding_all rfl) (by with_unfolding_all rfl) ?_)
    | (with_reducible refine PCall.dn (g3) (by with_unfolding_all rfl) (by with_unfolding_all rfl) ?_)
    | (with_reducible refine CallZ.l (PCall.kn (g2) (by with_unfolding_all rfl) (by with_unfolding_all rfl) ?_))
    | (with_reducible refine PCall.kn (g2) (by with_unfolding_all rfl) (by with_unfolding_all rfl) ?_)
    | (with_reducible refine PCall.dn (g2) (by with_unfolding_all rfl) (by with_unfolding_all rfl) ?_)
    | (with_reducible refine CallZ.l (PCall.kn (c2) (by with_unfolding_all rfl) (by with_unfolding_all rfl) ?_))
    | (with_reducible refine PCall.kn (c2) (by with_unfolding_all rfl) (by with_unfolding_all rfl) ?_)
    | (with_reducible refine PCall.dn (c2) (by with_unfolding_all rfl) (by with_unfolding_all rfl) ?_)
    | (with_reducible refine CallZ.l (PCall.kn (hs2) (by with_unfolding_all rfl) (by with_unfolding_all rfl) ?_))
    | (with_reducible refine PCall.kn (hs2) (by with_unfolding_all rfl) (by with_unfolding_all rfl) ?_)
    | (with_reducible refine PCall.dn (hs2) (by with_unfolding_all rfl) (by with_unfolding_all rfl) ?_)
    | ((with_reducible refine PCall.dz (t3) (by with_unfolding_all rfl) (by with_unfolding_all rfl) ?_); rotate_right; rintro zh1 zq1; (try simp -dsimp [go_sem] at zq1); obtain ⟨rfl⟩ := zq1)
    | ((with_reducible refine PCall.dz (c1) (by with_unfolding_all rfl) (by with_unfolding_all rfl) ?_); rotate_right; rintro zh1 zq1; (try simp -dsimp [go_sem] at zq1); obtain ⟨rfl⟩ := zq1)
    | ((with_reducible refine PCall.dz (g3) (by with_unfolding_all rfl) (by with_unfolding_all rfl) ?_); rotate_right; rintro zh1 zq1; (try simp -dsimp [go_sem] at zq1); obtain ⟨rfl⟩ := zq1)
    | ((with_reducible refine PCall.dz (g2) (by with_unfolding_all rfl) (by with_unfolding_all rfl) ?_); rotate_right; rintro zh1 zq1; (try simp -dsimp [go_sem] at zq1); obtain ⟨rfl⟩ := zq1)
    | ((with_reducible refine PCall.dz (c2) (by with_unfolding_all rfl) (by with_unfolding_all rfl) ?_); rotate_right; rintro zh1 zq1; (try simp -dsimp [go_sem] at zq1); obtain ⟨rfl⟩ := zq1)
    | ((with_reducible refine PCall.dz (hs2) (by with_unfolding_all rfl) (by with_unfolding_all rfl) ?_); rotate_right; rintro zh1 zq1; (try simp -dsimp [go_sem] at zq1); obtain ⟨rfl⟩ := zq1)
    | (with_reducible refine CallZ.z ?_)
    | (simp -dsimp [go_sem, e1, f2, hul, hul2, ← List.map_drop]))
        all_goals first
          | omega
          | (exfalso
             by_cases hc : cur = []
             · subst hc
               simp at h
               omega
             · have hp := List.length_pos_iff.2 hc
               simp [hc, hp] at h
             done)
          | skip
  · obtain ⟨q1, q2⟩ := hlast (by omega)
    have h0' : (0 : Int) < X.length := by omega
    repeat' (first
    | (with_reducible refine Cnd.intro (fun h => ?_) (fun h => ?_))
    | (with_reducible refine And.intro ?_ ?_)
    | (with_reducible refine Wk.refl ?_)
    | (with_reducible exact Weak.refl _ _)
    | (with_reducible refine weak_auto ?_)
    | (with_reducible apply awp_join)
    | (with_reducible refine CallZ.l (PCall.kf (hlog) ?_ ?_))
    | (with_reducible refine PCall.kf (hlog) ?_ ?_)
    | (with_reducible refine PCall.df (hlog) ?_ ?_)
    | (with_reducible refine CallZ.l (PCall.kf (picked_c _ _ (by assumption) q0) ?_ ?_))
    | (with_reducible refine PCall.kf (picked_c _ _ (by assumption) q0) ?_ ?_)
    | (with_reducible refine PCall.df (picked_c _ _ (by assumption) q0) ?_ ?_)
    | (with_reducible refine CallZ.l (PCall.kf (g1) ?_ ?_))
    | (with_reducible refine PCall.kf (g1) ?_ ?_)
    | (with_reducible refine PCall.df (g1) ?_ ?_)
    | ((with_reducible refine CallZ.l (DetCall.kg (g0) (by with_unfolding_all rfl) (by with_unfolding_all rfl) (by with_unfolding_all rfl) ?_)); rotate_right; rintro zr1 zh1 zq1 zq2; (try simp -dsimp [go_sem] at zq1 zq2); obtain ⟨rfl⟩ := zq1; obtain ⟨rfl⟩ := zq2)
    | ((with_reducible refine DetCall.kg (g0) (by with_unfolding_all rfl) (by with_unfolding_all rfl) (by with_unfolding_all rfl) ?_); rotate_right; rintro zr1 zh1 zq1 zq2; (try simp -dsimp [go_sem] at zq1 zq2); obtain ⟨rfl⟩ := zq1; obtain ⟨rfl⟩ := zq2)
    | ((with_reducible refine DetCall.dg (g0) (by with_unfolding_all rfl) (by with_unfolding_all rfl) (by with_unfolding_all rfl) ?_); rotate_right; rintro zr1 zh1 zq1 zq2; (try simp -dsimp [go_sem] at zq1 zq2); obtain ⟨rfl⟩ := zq1; obtain ⟨rfl⟩ := zq2)
    | (with_reducible refine CallZ.l (PCall.kn (hlog) (by with_unfolding_all rfl) (by with_unfolding_all rfl) ?_))
    | (with_reducible refine PCall.kn (hlog) (by with_unfolding_all rfl) (by with_unfolding_all rfl) ?_)
    | (with_reducible refine PCall.dn (hlog) (by with_unfolding_all rfl) (by with_unfolding_all rfl) ?_)
    | (with_reducible refine CallZ.l (PCall.kn (picked_c _ _ (by assumption) q0) (by with_unfolding_all rfl) (by with_unfolding_all rfl) ?_))
    | (with_reducible refine PCall.kn (picked_c _ _ (by assumption) q0) (by with_unfolding_all rfl) (by with_unfolding_all rfl) ?_)
    | (with_reducible refine PCall.dn (picked_c _ _ (by assumption) q0) (by with_unfolding_all rfl) (by with_unfolding_all rfl) ?_)
    | (with_reducible refine CallZ.l (PCall.kn (g1) (by with_unfolding_all rfl) (by with_unfolding_all rfl) ?_))
    | (with_reducible refine PCall.kn (g1) (by with_unfolding_all rfl) (by with_unfolding_all rfl) ?_)
    | (with_reducible refine PCall.dn (g1) (by with_unfolding_all rfl) (by with_unfolding_all rfl) ?_)
    | ((with_reducible refine PCall.dz (hlog) (by with_unfolding_all rfl) (by with_unfolding_all rfl) ?_); rotate_right; rintro zh1 zq1; (try simp -dsimp [go_sem] at zq1); obtain ⟨rfl⟩ := zq1)
    | ((with_reducible refine PCall.dz (picked_c _ _ (by assumption) q0) (by with_unfolding_all rfl) (by with_unfolding_all rfl) ?_); rotate_right; rintro zh1 zq1; (try simp -dsimp [go_sem] at zq1); obtain ⟨rfl⟩ := zq1)
    | ((with_reducible refine PCall.dz (g1) (by with_unfolding_all rfl) (by with_unfolding_all rfl) ?_); rotate_right; rintro zh1 zq1; (try simp -dsimp [go_sem] at zq1); obtain ⟨rfl⟩ := zq1)
    | (with_reducible refine CallZ.z ?_)
    | (simp -dsimp [go_sem, hk', f1, hte, h0', e1, e2, e3, q1, q2, Item.row]))
    all_goals first | (exfalso; rw [decide_eq_true (show 0 < X.length by omega)] at h; cases h; done) | omega | skip
    refine awp_loop (fun st : Nat × List Item => ⟨[(9, .one (.ptr 0 0)), (10, iV k), (11, iV (B + X.length)), (12, iV (endT T X)), (13, iV 0), (14, .one (.ar 1)), (15, iV (endM 0 X)), (17, iV st.1)], G, [some (.box 41 (logC B T X)), some (.arr 31 10 (st.2.map Item.row))]⟩) (fun st => st.1 ≤ ms.length ∧ Shifted (endM 0 X) ms st.2 st.1) (fun st => ms.length - st.1) (0, ms) (weak_auto ?_) ⟨Nat.zero_le _, ⟨rfl, rfl, rfl⟩⟩ ?_
    · simp -dsimp [go_sem]
    · rintro ⟨i, cur⟩ ⟨hi, hS⟩
      have hlen : cur.length = ms.length := hS.len
      simp only at hi
      simp -dsimp [go_sem]
      refine Cnd.intro (fun h => ?_) (fun h => ?_)
      · have hlt : i < cur.length := by simp at h; omega
        obtain ⟨y, hy⟩ : ∃ y, cur[i]? = some y := ⟨_, List.getElem?_eq_getElem hlt⟩
        have hyr : (cur.map Item.row)[i]? = some y.row := by rw [List.getElem?_map, hy]; rfl
        have hyb := hmb y (by
          have h1 := congrArg (fun l => l[0]?) hS.left
          simp [hy] at h1
          exact List.mem_of_getElem? h1.symm)
        have e4 : IntKind.i64.wrap ((i : Int) + 1) = i + 1 := IntWalk.i64_in _ (by omega)
        have e5 : IntKind.i64.wrap (y.time + endM 0 X) = y.time + endM 0 X := IntWalk.i64_in _ (by omega)
        repeat' (first
    | (with_reducible refine Cnd.intro (fun h => ?_) (fun h => ?_))
    | (with_reducible refine And.intro ?_ ?_)
    | (with_reducible refine Wk.refl ?_)
    | (with_reducible exact Weak.refl _ _)
    | (with_reducible refine weak_auto ?_)
    | (with_reducible apply awp_join)
    | (with_reducible refine CallZ.z ?_)
    | (simp -dsimp [go_sem, e4, e5, hyr, Item.row]))
        all_goals first
          | omega
          | (with_reducible refine Again.auto (i + 1, cur.set i (shiftI (endM 0 X) y)) ?_ ?_ ?_)
          | skip
        · simp -dsimp [go_sem, List.map_set, Item.row, shiftI]
        · exact ⟨by show i + 1 ≤ ms.length; omega, hS.next hy⟩
        · show ms.length - (i + 1) < ms.length - i
          omega
      · have hij : ms.length ≤ i := by simp at h; omega
        have hcur := hS.all hij
        simp only at hcur
        rw [hm2] at hcur
        subst hcur
        have hul2 := ul_rows cur
        simp only [logC, matchV, List.map_append] at g2 g3 hs hs2 c1 c2 t3
        repeat' (first
    | (with_reducible refine Cnd.intro (fun h => ?_) (fun h => ?_))
    | (with_reducible refine And.intro ?_ ?_)
    | (with_reducible refine Wk.refl ?_)
    | (with_reducible exact Weak.refl _ _)
    | (with_reducible refine weak_auto ?_)
    | (with_reducible apply awp_join)
    | (with_reducible refine CallZ.l (PCall.kf (t3) ?_ ?_))
    | (with_reducible refine PCall.kf (t3) ?_ ?_)
    | (with_reducible refine PCall.df (t3) ?_ ?_)
    | (with_reducible refine CallZ.l (PCall.kf (c1) ?_ ?_))
    | (with_reducible refine PCall.kf (c1) ?_ ?_)
    | (with_reducible refine PCall.df (c1) ?_ ?_)
    | (with_reducible refine CallZ.l (PCall.kf (g3) ?_ ?_))
    | (with_reducible refine PCall.kf (g3) ?_ ?_)
    | (with_reducible refine PCall.df (g3) ?_ ?_)
    | (with_reducible refine CallZ.l (PCall.kf (g2) ?_ ?_))
    | (with_reducible refine PCall.kf (g2) ?_ ?_)
    | (with_reducible refine PCall.df (g2) ?_ ?_)
    | (with_reducible refine CallZ.l (PCall.kf (c2) ?_ ?_))
    | (with_reducible refine PCall.kf (c2) ?_ ?_)
    | (with_reducible refine PCall.df (c2) ?_ ?_)
    | (with_reducible refine CallZ.l (PCall.kf (hs2) ?_ ?_))
    | (with_reducible refine PCall.kf (hs2) ?_ ?_)
    | (with_reducible refine PCall.df (hs2) ?_ ?_)
    | (with_reducible refine CallZ.l (PCall.kn (t3) (by with_unfolding_all rfl) (by with_unfolding_all rfl) ?_))
    | (with_reducible refine PCall.kn (t3) (by with_unfolding_all rfl) (by with_unfolding_all rfl) ?_)
    | (with_reducible refine PCall.dn (t3) (by with_unfolding_all rfl) (by with_unfolding_all rfl) ?_)
    | (with_reducible refine CallZ.l (PCall.kn (c1) (by with_unfolding_all rfl) (by with_unfolding_all rfl) ?_))
    | (with_reducible refine PCall.kn (c1) (by with_unfolding_all rfl) (by with_unfolding_all rfl) ?_)
    | (with_reducible refine PCall.dn (c1) (by with_unfolding_all rfl) (by with_unfolding_all rfl) ?_)
    | (with_reducible refine CallZ.l (PCall.kn (g3) (by with_unfolding_all rfl) (by with_unfolding_all rfl) ?_))
    | (with_reducible refine PCall.kn (g3) (by with_unfolding_all rfl) (by with_unfolding_all rfl) ?_)
    | (with_reducible refine PCall.dn (g3) (by with_unfolding_all rfl) (by with_unfolding_all rfl) ?_)
    | (with_reducible refine CallZ.l (PCall.kn (g2) (by with_unfolding_all rfl) (by with_unfolding_all rfl) ?_))
    | (with_reducible refine PCall.kn (g2) (by with_unfolding_all rfl) (by with_unfolding_all rfl) ?_)
    | (with_reducible refine PCall.dn (g2) (by with_unfolding_all rfl) (by with_unfolding_all rfl) ?_)
    | (with_reducible refine CallZ.l (PCall.kn (c2) (by with_unfolding_all rfl) (by with_unfolding_all rfl) ?_))
    | (with_reducible refine PCall.kn (c2) (by with_unfolding_all rfl) (by with_unfolding_all rfl) ?_)
    | (with_reducible refine PCall.dn (c2) (by with_unfolding_all rfl) (by with_unfolding_all rfl) ?_)
    | (with_reducible refine CallZ.l (PCall.kn (hs2) (by with_unfolding_all rfl) (by with_unfolding_all rfl) ?_))
    | (with_reducible refine PCall.kn (hs2) (by with_unfolding_all rfl) (by with_unfolding_all rfl) ?_)
    | (with_reducible refine PCall.dn (hs2) (by with_unfolding_all rfl) (by with_unfolding_all rfl) ?_)
    | ((with_reducible refine PCall.dz (t3) (by with_unfolding_all rfl) (by with_unfolding_all rfl) ?_); rotate_right; rintro zh1 zq1; (try simp -dsimp [go_sem] at zq1); obtain ⟨rfl⟩ := zq1)
    | ((with_reducible refine PCall.dz (c1) (by with_unfolding_all rfl) (by with_unfolding_all rfl) ?_); rotate_right; rintro zh1 zq1; (try simp -dsimp [go_sem] at zq1); obtain ⟨rfl⟩ := zq1)
    | ((with_reducible refine PCall.dz (g3) (by with_unfolding_all rfl) (by with_unfolding_all rfl) ?_); rotate_right; rintro zh1 zq1; (try simp -dsimp [go_sem] at zq1); obtain ⟨rfl⟩ := zq1)
    | ((with_reducible refine PCall.dz (g2) (by with_unfolding_all rfl) (by with_unfolding_all rfl) ?_); rotate_right; rintro zh1 zq1; (try simp -dsimp [go_sem] at zq1); obtain ⟨rfl⟩ := zq1)
    | ((with_reducible refine PCall.dz (c2) (by with_unfolding_all rfl) (by with_unfolding_all rfl) ?_); rotate_right; rintro zh1 zq1; (try simp -dsimp [go_sem] at zq1); obtain ⟨rfl⟩ := zq1)
    | ((with_reducible refine PCall.dz (hs2) (by with_unfolding_all rfl) (by with_unfolding_all rfl) ?_); rotate_right; rintro zh1 zq1; (try simp -dsimp [go_sem] at zq1); obtain ⟨rfl⟩ := zq1)
    | (with_reducible refine CallZ.z ?_)
    | (simp -dsimp [go_sem, e1, f2, hul, hul2, ← List.map_drop]))
        all_goals first
          | omega
          | (exfalso
             by_cases hc : cur = []
             · subst hc
               simp at h
               omega
             · have hp := List.length_pos_iff.2 hc
               simp [hc, hp] at h
             done)
          | skip
end Go.Proofs.Ytniihihcklpdgaa
