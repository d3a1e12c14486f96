/- The functions MatchMore, TrimMatch answer true. -/
import Derived.Test.YtniihihcklpdgaaX3
set_option linter.unusedVariables false
set_option linter.unusedSimpArgs false
set_option maxRecDepth 100000
set_option maxHeartbeats 8000000
namespace Go.Proofs.Ytniihihcklpdgaa
open Go Go.RowKit Go.Proofs.AE
variable {G : Nat → AV}
def shiftI (d : Int) (x : Item) : Item := { x with time := x.time + d }
theorem shift_of (d : Int) (x : Deed) (te ti : Int) : shiftI d (itemOf x te ti) = itemOf x te (ti + d) := by
  unfold itemOf shiftI
  split
  · rfl
  · rfl
theorem shift_go (d : Int) : ∀ (l : List Deed) (te ti : Int), (itemsGo l te ti).map (shiftI d) = itemsGo l te (ti + d)
  | [], _, _ => rfl
  | x :: l, te, ti => by
    simp only [itemsGo, List.map_cons, shift_of, shift_go d l]
    rw [show ti + pk x.wait 3 + d = ti + d + pk x.wait 3 by omega]
/-- Items that are shifted in time, one by one. -/
structure Shifted (d : Int) (ms cur : List Item) (i : Nat) : Prop where
  len : cur.length = ms.length
  done : cur.take i = (ms.take i).map (shiftI d)
  left : cur.drop i = ms.drop i
theorem Shifted.next {d : Int} {ms cur : List Item} {i : Nat} (h : Shifted d ms cur i) {y : Item} (hy : cur[i]? = some y) : Shifted d ms (cur.set i (shiftI d y)) (i + 1) := by
  have hlt := lt_of_getElem? hy
  have hm : ms[i]? = some y := by
    have h1 := congrArg (fun l => l[0]?) h.left
    simpa [hy] using h1.symm
  have hy' : cur[i] = y := by rw [List.getElem?_eq_getElem hlt] at hy; exact Option.some.inj hy
  have hltm : i < ms.length := by rw [← h.len]; exact hlt
  have hm' : ms[i] = y := by rw [List.getElem?_eq_getElem hltm] at hm; exact Option.some.inj hm
  refine ⟨by simp [h.len], ?_, ?_⟩
  · rw [List.take_succ_eq_append_getElem hltm, List.take_succ_eq_append_getElem (by simpa using hlt), List.take_set_of_le (Nat.le_refl _), h.done, List.map_append, hm']
    simp
  · rw [List.drop_set_of_lt (by omega)]
    have h1 := congrArg (List.drop 1) h.left
    simpa using h1
theorem Shifted.all {d : Int} {ms cur : List Item} {i : Nat} (h : Shifted d ms cur i) (hi : ms.length ≤ i) : cur = ms.map (shiftI d) := by
  have := h.done
  rw [List.take_of_length_le (by rw [h.len]; exact hi), List.take_of_length_le hi] at this
  exact this
theorem row_set {cur : List Item} {i : Nat} {y z : Item} {r : List V} (hr : r = z.row) : (cur.map Item.row).set i r = (cur.set i z).map Item.row := by
  subst hr; rw [List.map_set]
/-- More items behind a log. -/
theorem more_ok {B T : Int} {X : List Item} (ok : checkLog B T X = 0) (hX : X.length ≤ 30) (hb : ∀ y ∈ X, 1 ≤ y.term ∧ y.term ≤ 40 ∧ 0 ≤ y.time ∧ y.time ≤ 60) (hT : T ≤ 2) (hB : B < 12) (more : List Deed) (hd : ∀ d ∈ more, d.Ok) (te : Int) (hte : endT T X ≤ te ∧ 1 ≤ te ∧ te ≤ 40) :
    checkLog B T (X ++ (itemsOf more te).map (shiftI (endM 0 X))) = 0 ∧ ((itemsOf more te).map (shiftI (endM 0 X))).length ≤ 30 := by
  have hm : (itemsOf more te).map (shiftI (endM 0 X)) = itemsGo (more.take 30) te (endM 0 X) := by
    unfold itemsOf
    rw [shift_go, Int.zero_add]
  have hM : 0 ≤ endM 0 X ∧ endM 0 X ≤ 60 := by
    rcases endM_mem X 0 with h | ⟨y, hy, h⟩
    · omega
    · have := hb y hy; omega
  have hl : (itemsGo (more.take 30) te (endM 0 X)).length ≤ 30 := by rw [itemsGo_length]; simp; omega
  have hl2 : (more.take 30).length ≤ 30 := by simp; omega
  rw [hm]
  refine ⟨?_, hl⟩
  rw [checkLog_iff] at ok ⊢
  obtain ⟨a, b, c, d, e, f, g⟩ := ok
  rw [chk_app]
  refine ⟨a, b, c, d, by simp; omega, by simp; omega, g, ?_⟩
  exact chk_go _ _ _ _ _ (fun d h => hd d (List.mem_of_mem_take h)) hte.1 (Int.le_refl _) (by omega) (by omega) (by omega) (by omega)
theorem more_first (X ms : List Item) : firstNew X X.length ms 0 = if ms = [] then none else some 0 := by
  cases ms with
  | nil => rfl
  | cons y l => unfold firstNew; rw [List.getElem?_eq_none (Nat.le_refl _)]; rfl
/-- What Match answers of more items behind a log. -/
theorem matchEnd_c {B T : Int} {X ms : List Item} (ok : checkLog B T X = 0) (ok2 : checkLog B T (X ++ ms) = 0) :
    PCall Try.prog G 25 [.agg (logC B T X), iV (B + X.length), iV (endT T X), rowsV ms] (matchV B T (X ++ ms) true (if ms = [] then 0 else B + X.length + 1) 0) := by
  have h1 := checkLog_drop ok2 (k := X.length) (by simp)
  rw [List.take_left' rfl, List.drop_left' rfl] at h1
  have h0 : X.take X.length = X := List.take_of_length_le (Nat.le_refl _)
  by_cases hm : ms = []
  · subst hm
    have := matchNone_c (G := G) (k := X.length) (its := []) ok (Nat.le_refl _) (by rw [h0]; exact h1) rfl
    rw [h0] at this
    simpa using this
  · have := matchSome_c (G := G) (k := X.length) (its := ms) ok (Nat.le_refl _) (by rw [h0]; exact h1) (by rw [more_first, if_neg hm]) (by simpa using ok2)
    rw [h0] at this
    simpa [hm] using this
theorem matchMore_c (l more : List Deed) (base : Int) (hl : (l.length : Int) ≤ 9223372036854775807) (hd : ∀ d ∈ l, d.Ok) (hl2 : (more.length : Int) ≤ 9223372036854775807) (hd2 : ∀ d ∈ more, d.Ok) (hb : i64 base) :
    PCall Try.prog G 12 [.one (.v (.sl (l.map Deed.row))), iV base, .one (.v (.sl (more.map Deed.row)))] (bV true) := by
  obtain ⟨B, T, X, hlog, ok, hX, hB0, hB1, hBe, hTe, hXe⟩ := log_x l base hl hd hb
  have hlog := hlog G
  have hbd : ∀ y ∈ X, 1 ≤ y.term ∧ y.term ≤ 40 ∧ 0 ≤ y.time ∧ y.time ≤ 60 := by rw [hXe]; exact made_bound l base
  have hT : 0 ≤ T ∧ T ≤ 2 := by rw [hTe]; unfold logBT; split <;> omega
  have hend : 0 ≤ endT T X ∧ endT T X ≤ 40 := by
    rcases endT_mem X T with h | ⟨y, hy, h⟩
    · omega
    · have := hbd y hy; omega
  have hM : 0 ≤ endM 0 X ∧ endM 0 X ≤ 60 := by
    rcases endM_mem X 0 with h | ⟨y, hy, h⟩
    · omega
    · have := hbd y hy; omega
  obtain ⟨te, hte⟩ : ∃ te, (if endT T X < 1 then 1 else endT T X) = te := ⟨_, rfl⟩
  have hteb : endT T X ≤ te ∧ 1 ≤ te ∧ te ≤ 40 := by rw [← hte]; split <;> omega
  obtain ⟨m1, m2⟩ := more_ok ok hX hbd hT.2 hB1 more hd2 te hteb
  have g0 := itemsO_c (G := G) more te hl2 hd2 (by omega)
  have hmb : ∀ y ∈ itemsOf more te, 0 ≤ y.time ∧ y.time ≤ 60 := by
    intro y hy
    unfold itemsOf at hy
    have := itemsGo_bound (more.take 30) te 0 30 (by simp; omega) y hy
    omega
  obtain ⟨ms, hms⟩ : ∃ ms, itemsOf more te = ms := ⟨_, rfl⟩
  rw [hms] at m1 m2 g0 hmb
  have hmsl : ms.length ≤ 30 := by simpa using m2
  have g1 := lastGood_c (G := G) B T X ok
  rw [lastTerm_end] at g1
  have g2 := matchEnd_c (G := G) ok m1
  have hs := sameLog_c (G := G) B T (X ++ ms.map (shiftI (endM 0 X))) B T (X ++ ms.map (shiftI (endM 0 X))) (by rw [List.length_append]; omega)
  have e1 : IntKind.i64.wrap (B + X.length + 1) = B + X.length + 1 := IntWalk.i64_in _ (by omega)
  have e2 : IntKind.i64.wrap ((X.length : Int) - 1) = X.length - 1 := IntWalk.i64_in _ (by omega)
  -- the last time
  have hlast : ∀ h : 0 < X.length, (X.map Item.row)[X.length - 1]? = some (X[X.length - 1]'(by omega)).row ∧ (X[X.length - 1]'(by omega)).time = endM 0 X := by
    intro h
    refine ⟨by rw [List.getElem?_map, List.getElem?_eq_getElem (by omega)]; rfl, ?_⟩
    rw [endM_get, List.getElem?_eq_getElem (by omega)]
  have hz : X.length = 0 → endM 0 X = 0 := fun h => by rw [List.eq_nil_of_length_eq_zero h]; rfl
  have e3 : ((X.length : Int) - 1).toNat = X.length - 1 := by omega
  have hul := ul_rows X
  obtain ⟨m2', hm2⟩ : ∃ z, ms.map (shiftI (endM 0 X)) = z := ⟨_, rfl⟩
  rw [hm2] at g2 hs m2
  refine pcall mixed Try.func12 ok_rostrumkeep_MatchMore rs_rostrumkeep_MatchMore (by simp [Try.f12]) ?_
  unfold ac_rostrumkeep_MatchMore
  by_cases h0 : X.length = 0
  · have h0' : ¬ (0 : Int) < X.length := by omega
    have hz' := hz h0
    repeat' (first
    | (with_reducible refine Cnd.intro (fun h => ?_) (fun h => ?_))
    | (with_reducible refine And.intro ?_ ?_)
    | (with_reducible refine Wk.refl ?_)
    | (with_reducible exact Weak.refl _ _)
    | (with_reducible refine weak_auto ?_)
    | (with_reducible apply awp_join)
    | (with_reducible refine CallZ.l (PCall.kf (hlog) ?_ ?_))
    | (with_reducible refine PCall.kf (hlog) ?_ ?_)
    | (with_reducible refine PCall.df (hlog) ?_ ?_)
    | (with_reducible refine CallZ.l (PCall.kf (g1) ?_ ?_))
    | (with_reducible refine PCall.kf (g1) ?_ ?_)
    | (with_reducible refine PCall.df (g1) ?_ ?_)
    | ((with_reducible refine CallZ.l (DetCall.kg (g0) (by with_unfolding_all rfl) (by with_unfolding_all rfl) (by with_unfolding_all rfl) ?_)); rotate_right; rintro zr1 zh1 zq1 zq2; (try simp -dsimp [go_sem] at zq1 zq2); obtain ⟨rfl⟩ := zq1; obtain ⟨rfl⟩ := zq2)
    | ((with_reducible refine DetCall.kg (g0) (by with_unfolding_all rfl) (by with_unfolding_all rfl) (by with_unfolding_all rfl) ?_); rotate_right; rintro zr1 zh1 zq1 zq2; (try simp -dsimp [go_sem] at zq1 zq2); obtain ⟨rfl⟩ := zq1; obtain ⟨rfl⟩ := zq2)
    | ((with_reducible refine DetCall.dg (g0) (by with_unfolding_all rfl) (by with_unfolding_all rfl) (by with_unfolding_all rfl) ?_); rotate_right; rintro zr1 zh1 zq1 zq2; (try simp -dsimp [go_sem] at zq1 zq2); obtain ⟨rfl⟩ := zq1; obtain ⟨rfl⟩ := zq2)
    | (with_reducible refine CallZ.l (PCall.kn (hlog) (by with_unfolding_all rfl) (by with_unfolding_all rfl) ?_))
    | (with_reducible refine PCall.kn (hlog) (by with_unfolding_all rfl) (by with_unfolding_all rfl) ?_)
    | (with_reducible refine PCall.dn (hlog) (by with_unfolding_all rfl) (by with_unfolding_all rfl) ?_)
    | (with_reducible refine CallZ.l (PCall.kn (g1) (by with_unfolding_all rfl) (by with_unfolding_all rfl) ?_))
    | (with_reducible refine PCall.kn (g1) (by with_unfolding_all rfl) (by with_unfolding_all rfl) ?_)
    | (with_reducible refine PCall.dn (g1) (by with_unfolding_all rfl) (by with_unfolding_all rfl) ?_)
    | ((with_reducible refine PCall.dz (hlog) (by with_unfolding_all rfl) (by with_unfolding_all rfl) ?_); rotate_right; rintro zh1 zq1; (try simp -dsimp [go_sem] at zq1); obtain ⟨rfl⟩ := zq1)
    | ((with_reducible refine PCall.dz (g1) (by with_unfolding_all rfl) (by with_unfolding_all rfl) ?_); rotate_right; rintro zh1 zq1; (try simp -dsimp [go_sem] at zq1); obtain ⟨rfl⟩ := zq1)
    | (with_reducible refine CallZ.z ?_)
    | (simp -dsimp [go_sem, hte, h0', e1, e2]))
    all_goals first | (exfalso; rw [decide_eq_false (show ¬ 0 < X.length by omega)] at h; cases h; done) | omega | skip
    refine awp_loop (fun st : Nat × List Item => ⟨[(7, .one (.ptr 0 0)), (8, iV (B + X.length)), (9, iV (endT T X)), (10, iV 0), (11, .one (.ar 1)), (12, iV (endM 0 X)), (14, iV st.1)], G, [some (.box 41 (logC B T X)), some (.arr 31 10 (st.2.map Item.row))]⟩) (fun st => st.1 ≤ ms.length ∧ Shifted (endM 0 X) ms st.2 st.1) (fun st => ms.length - st.1) (0, ms) (weak_auto ?_) ⟨Nat.zero_le _, ⟨rfl, rfl, rfl⟩⟩ ?_
    · simp -dsimp [go_sem, hz']
    · rintro ⟨i, cur⟩ ⟨hi, hS⟩
      have hlen : cur.length = ms.length := hS.len
      simp only at hi
      simp -dsimp [go_sem]
      refine Cnd.intro (fun h => ?_) (fun h => ?_)
      · have hlt : i < cur.length := by simp at h; omega
        obtain ⟨y, hy⟩ : ∃ y, cur[i]? = some y := ⟨_, List.getElem?_eq_getElem hlt⟩
        have hyr : (cur.map Item.row)[i]? = some y.row := by rw [List.getElem?_map, hy]; rfl
        have hyb := hmb y (by
          have h1 := congrArg (fun l => l[0]?) hS.left
          simp [hy] at h1
          exact List.mem_of_getElem? h1.symm)
        have e4 : IntKind.i64.wrap ((i : Int) + 1) = i + 1 := IntWalk.i64_in _ (by omega)
        have e5 : IntKind.i64.wrap (y.time + endM 0 X) = y.time + endM 0 X := IntWalk.i64_in _ (by omega)
        repeat' (first
    | (with_reducible refine Cnd.intro (fun h => ?_) (fun h => ?_))
    | (with_reducible refine And.intro ?_ ?_)
    | (with_reducible refine Wk.refl ?_)
    | (with_reducible exact Weak.refl _ _)
    | (with_reducible refine weak_auto ?_)
    | (with_reducible apply awp_join)
    | (with_reducible refine CallZ.z ?_)
    | (simp -dsimp [go_sem, e4, e5, hyr, Item.row]))
        all_goals first
          | omega
          | (with_reducible refine Again.auto (i + 1, cur.set i (shiftI (endM 0 X) y)) ?_ ?_ ?_)
          | skip
        · simp -dsimp [go_sem, List.map_set, Item.row, shiftI]
        · exact ⟨by show i + 1 ≤ ms.length; omega, hS.next hy⟩
        · show ms.length - (i + 1) < ms.length - i
          omega
      · have hij : ms.length ≤ i := by simp at h; omega
        have hcur := hS.all hij
        simp only at hcur
        rw [hm2] at hcur
        subst hcur
        have hul2 := ul_rows cur
        simp only [logC, List.map_append] at hs
        repeat' (first
    | (with_reducible refine Cnd.intro (fun h => ?_) (fun h => ?_))
    | (with_reducible refine And.intro ?_ ?_)
    | (with_reducible refine Wk.refl ?_)
    | (with_reducible exact Weak.refl _ _)
    | (with_reducible refine weak_auto ?_)
    | (with_reducible apply awp_join)
    | (with_reducible refine CallZ.l (PCall.kf (g2) ?_ ?_))
    | (with_reducible refine PCall.kf (g2) ?_ ?_)
    | (with_reducible refine PCall.df (g2) ?_ ?_)
    | (with_reducible refine CallZ.l (PCall.kf (hs) ?_ ?_))
    | (with_reducible refine PCall.kf (hs) ?_ ?_)
    | (with_reducible refine PCall.df (hs) ?_ ?_)
    | (with_reducible refine CallZ.l (PCall.kn (g2) (by with_unfolding_all rfl) (by with_unfolding_all rfl) ?_))
    | (with_reducible refine PCall.kn (g2) (by with_unfolding_all rfl) (by with_unfolding_all rfl) ?_)
    | (with_reducible refine PCall.dn (g2) (by with_unfolding_all rfl) (by with_unfolding_all rfl) ?_)
    | (with_reducible refine CallZ.l (PCall.kn (hs) (by with_unfolding_all rfl) (by with_unfolding_all rfl) ?_))
    | (with_reducible refine PCall.kn (hs) (by with_unfolding_all rfl) (by with_unfolding_all rfl) ?_)
    | (with_reducible refine PCall.dn (hs) (by with_unfolding_all rfl) (by with_unfolding_all rfl) ?_)
    | ((with_reducible refine PCall.dz (g2) (by with_unfolding_all rfl) (by with_unfolding_all rfl) ?_); rotate_right; rintro zh1 zq1; (try simp -dsimp [go_sem] at zq1); obtain ⟨rfl⟩ := zq1)
    | ((with_reducible refine PCall.dz (hs) (by with_unfolding_all rfl) (by with_unfolding_all rfl) ?_); rotate_right; rintro zh1 zq1; (try simp -dsimp [go_sem] at zq1); obtain ⟨rfl⟩ := zq1)
    | (with_reducible refine CallZ.z ?_)
    | (simp -dsimp [go_sem, e1, hul, hul2]))
        all_goals first
          | omega
          | (exfalso
             by_cases hc : cur = []
             · subst hc
               simp at h
               omega
             · have hp := List.length_pos_iff.2 hc
               simp [hc, hp] at h
             done)
          | skip
  · obtain ⟨q1, q2⟩ := hlast (by omega)
    have h0' : (0 : Int) < X.length := by omega
    repeat' (first
    | (with_reducible refine Cnd.intro (fun h => ?_) (fun h => ?_))
    | (with_reducible refine And.intro ?_ ?_)
    | (with_reducible refine Wk.refl ?_)
    | (with_reducible exact Weak.refl _ _)
    | (with_reducible refine weak_auto ?_)
    | (with_reducible apply awp_join)
    | (with_reducible refine CallZ.l (PCall.kf (hlog) ?_ ?_))
    | (with_reducible refine PCall.kf (hlog) ?_ ?_)
    | (with_reducible refine PCall.df (hlog) ?_ ?_)
    | (with_reducible refine CallZ.l (PCall.kf (g1) ?_ ?_))
    | (with_reducible refine PCall.kf (g1) ?_ ?_)
    | (with_reducible refine PCall.df (g1) ?_ ?_)
    | ((with_reducible refine CallZ.l (DetCall.kg (g0) (by with_unfolding_all rfl) (by with_unfolding_all rfl) (by with_unfolding_all rfl) ?_)); rotate_right; rintro zr1 zh1 zq1 zq2; (try simp -dsimp [go_sem] at zq1 zq2); obtain ⟨rfl⟩ := zq1; obtain ⟨rfl⟩ := zq2)
    | ((with_reducible refine DetCall.kg (g0) (by with_unfolding_all rfl) (by with_unfolding_all rfl) (by with_unfolding_all rfl) ?_); rotate_right; rintro zr1 zh1 zq1 zq2; (try simp -dsimp [go_sem] at zq1 zq2); obtain ⟨rfl⟩ := zq1; obtain ⟨rfl⟩ := zq2)
    | ((with_reducible refine DetCall.dg (g0) (by with_unfolding_all rfl) (by with_unfolding_all rfl) (by with_unfolding_all rfl) ?_); rotate_right; rintro zr1 zh1 zq1 zq2; (try simp -dsimp [go_sem] at zq1 zq2); obtain ⟨rfl⟩ := zq1; obtain ⟨rfl⟩ := zq2)
    | (with_reducible refine CallZ.l (PCall.kn (hlog) (by with_unfolding_all rfl) (by with_unfolding_all rfl) ?_))
    | (with_reducible refine PCall.kn (hlog) (by with_unfolding_all rfl) (by with_unfolding_all rfl) ?_)
    | (with_reducible refine PCall.dn (hlog) (by with_unfolding_all rfl) (by with_unfolding_all rfl) ?_)
    | (with_reducible refine CallZ.l (PCall.kn (g1) (by with_unfolding_all rfl) (by with_unfolding_all rfl) ?_))
    | (with_reducible refine PCall.kn (g1) (by with_unfolding_all rfl) (by with_unfolding_all rfl) ?_)
    | (with_reducible refine PCall.dn (g1) (by with_unfolding_all rfl) (by with_unfolding_all rfl) ?_)
    | ((with_reducible refine PCall.dz (hlog) (by with_unfolding_all rfl) (by with_unfolding_all rfl) ?_); rotate_right; rintro zh1 zq1; (try simp -dsimp [go_sem] at zq1); obtain ⟨rfl⟩ := zq1)
    | ((with_reducible refine PCall.dz (g1) (by with_unfolding_all rfl) (by with_unfolding_all rfl) ?_); rotate_right; rintro zh1 zq1; (try simp -dsimp [go_sem] at zq1); obtain ⟨rfl⟩ := zq1)
    | (with_reducible refine CallZ.z ?_)
    | (simp -dsimp [go_sem, hte, h0', e1, e2, e3, q1, q2, Item.row]))
    all_goals first | (exfalso; rw [decide_eq_true (show 0 < X.length by omega)] at h; cases h; done) | omega | skip
    refine awp_loop (fun st : Nat × List Item => ⟨[(7, .one (.ptr 0 0)), (8, iV (B + X.length)), (9, iV (endT T X)), (10, iV 0), (11, .one (.ar 1)), (12, iV (endM 0 X)), (14, iV st.1)], G, [some (.box 41 (logC B T X)), some (.arr 31 10 (st.2.map Item.row))]⟩) (fun st => st.1 ≤ ms.length ∧ Shifted (endM 0 X) ms st.2 st.1) (fun st => ms.length - st.1) (0, ms) (weak_auto ?_) ⟨Nat.zero_le _, ⟨rfl, rfl, rfl⟩⟩ ?_
    · simp -dsimp [go_sem]
    · rintro ⟨i, cur⟩ ⟨hi, hS⟩
      have hlen : cur.length = ms.length := hS.len
      simp only at hi
      simp -dsimp [go_sem]
      refine Cnd.intro (fun h => ?_) (fun h => ?_)
      · have hlt : i < cur.length := by simp at h; omega
        obtain ⟨y, hy⟩ : ∃ y, cur[i]? = some y := ⟨_, List.getElem?_eq_getElem hlt⟩
        have hyr : (cur.map Item.row)[i]? = some y.row := by rw [List.getElem?_map, hy]; rfl
        have hyb := hmb y (by
          have h1 := congrArg (fun l => l[0]?) hS.left
          simp [hy] at h1
          exact List.mem_of_getElem? h1.symm)
        have e4 : IntKind.i64.wrap ((i : Int) + 1) = i + 1 := IntWalk.i64_in _ (by omega)
        have e5 : IntKind.i64.wrap (y.time + endM 0 X) = y.time + endM 0 X := IntWalk.i64_in _ (by omega)
        repeat' (first
    | (with_reducible refine Cnd.intro (fun h => ?_) (fun h => ?_))
    | (with_reducible refine And.intro ?_ ?_)
    | (with_reducible refine Wk.refl ?_)
    | (with_reducible exact Weak.refl _ _)
    | (with_reducible refine weak_auto ?_)
    | (with_reducible apply awp_join)
    | (with_reducible refine CallZ.z ?_)
    | (simp -dsimp [go_sem, e4, e5, hyr, Item.row]))
        all_goals first
          | omega
          | (with_reducible refine Again.auto (i + 1, cur.set i (shiftI (endM 0 X) y)) ?_ ?_ ?_)
          | skip
        · simp -dsimp [go_sem, List.map_set, Item.row, shiftI]
        · exact ⟨by show i + 1 ≤ ms.length; omega, hS.next hy⟩
        · show ms.length - (i + 1) < ms.length - i
          omega
      · have hij : ms.length ≤ i := by simp at h; omega
        have hcur := hS.all hij
        simp only at hcur
        rw [hm2] at hcur
        subst hcur
        have hul2 := ul_rows cur
        simp only [logC, List.map_append] at hs
        repeat' (first
    | (with_reducible refine Cnd.intro (fun h => ?_) (fun h => ?_))
    | (with_reducible refine And.intro ?_ ?_)
    | (with_reducible refine Wk.refl ?_)
    | (with_reducible exact Weak.refl _ _)
    | (with_reducible refine weak_auto ?_)
    | (with_reducible apply awp_join)
    | (with_reducible refine CallZ.l (PCall.kf (g2) ?_ ?_))
    | (with_reducible refine PCall.kf (g2) ?_ ?_)
    | (with_reducible refine PCall.df (g2) ?_ ?_)
    | (with_reducible refine CallZ.l (PCall.kf (hs) ?_ ?_))
    | (with_reducible refine PCall.kf (hs) ?_ ?_)
    | (with_reducible refine PCall.df (hs) ?_ ?_)
    | (with_reducible refine CallZ.l (PCall.kn (g2) (by with_unfolding_all rfl) (by with_unfolding_all rfl) ?_))
    | (with_reducible refine PCall.kn (g2) (by with_unfolding_all rfl) (by with_unfolding_all rfl) ?_)
    | (with_reducible refine PCall.dn (g2) (by with_unfolding_all rfl) (by with_unfolding_all rfl) ?_)
    | (with_reducible refine CallZ.l (PCall.kn (hs) (by with_unfolding_all rfl) (by with_unfolding_all rfl) ?_))
    | (with_reducible refine PCall.kn (hs) (by with_unfolding_all rfl) (by with_unfolding_all rfl) ?_)
    | (with_reducible refine PCall.dn (hs) (by with_unfolding_all rfl) (by with_unfolding_all rfl) ?_)
    | ((with_reducible refine PCall.dz (g2) (by with_unfolding_all rfl) (by with_unfolding_all rfl) ?_); rotate_right; rintro zh1 zq1; (try simp -dsimp [go_sem] at zq1); obtain ⟨rfl⟩ := zq1)
    | ((with_reducible refine PCall.dz (hs) (by with_unfolding_all rfl) (by with_unfolding_all rfl) ?_); rotate_right; rintro zh1 zq1; (try simp -dsimp [go_sem] at zq1); obtain ⟨rfl⟩ := zq1)
    | (with_reducible refine CallZ.z ?_)
    | (simp -dsimp [go_sem, e1, hul, hul2]))
        all_goals first
          | omega
          | (exfalso
             by_cases hc : cur = []
             · subst hc
               simp at h
               omega
             · have hp := List.length_pos_iff.2 hc
               simp [hc, hp] at h
             done)
          | skip
end Go.Proofs.Ytniihihcklpdgaa
