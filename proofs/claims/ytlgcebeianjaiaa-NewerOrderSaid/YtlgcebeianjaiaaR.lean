/- The functions rostrumkeep.NewerOrder and TermTold answer true. -/
import Derived.Test.YtlgcebeianjaiaaQ
set_option linter.unusedVariables false
set_option linter.unusedSimpArgs false
namespace Go.Proofs.Ytlgcebeianjaiaa
open Go Go.RowKit Go.Proofs.AE
variable {G : Nat → AV}
def newer (base bt : Int) (x : List Item) (place term : Int) : Bool := decide (lastTerm bt x < term) || (decide (term = lastTerm bt x) && decide (base + x.length ≤ place))
set_option maxHeartbeats 4000000 in
set_option maxRecDepth 100000 in
theorem newerGood_c (base bt : Int) (x : List Item) (place term : Int) (h : checkLog base bt x = 0) : PCall Try.prog G 23 [.agg (logC base bt x), iV place, iV term] (.tup [bV (newer base bt x place term), iV 0]) := by
  obtain ⟨b1, b2, b3, b4, b5⟩ := last_c' base bt x h
  refine pcall mixed Try.func23 ok_ledger_Newer rs_ledger_Newer (by simp [Try.f23]) ?_
  unfold ac_ledger_Newer
  repeat' (first
    | (with_reducible refine Cnd.intro (fun h => ?_) (fun h => ?_))
    | (with_reducible refine And.intro ?_ ?_)
    | (with_reducible refine Wk.refl ?_)
    | (with_reducible refine weak_auto ?_)
    | (with_reducible refine CallZ.l (PCall.kf (checkLog_c _ _ _ (by omega)) ?_ ?_))
    | (with_reducible refine PCall.kf (checkLog_c _ _ _ (by omega)) ?_ ?_)
    | (with_reducible refine PCall.df (checkLog_c _ _ _ (by omega)) ?_ ?_)
    | (with_reducible refine CallZ.l (PCall.kf (last_c _ _ _ ⟨b1, b2⟩ b3) ?_ ?_))
    | (with_reducible refine PCall.kf (last_c _ _ _ ⟨b1, b2⟩ b3) ?_ ?_)
    | (with_reducible refine PCall.df (last_c _ _ _ ⟨b1, b2⟩ b3) ?_ ?_)
    | (with_reducible refine' CallZ.l (PCall.kn (checkLog_c _ _ _ (by omega)) ?_ ?_ ?_); rfl; rfl)
    | (with_reducible refine' PCall.kn (checkLog_c _ _ _ (by omega)) ?_ ?_ ?_; rfl; rfl)
    | (with_reducible refine' PCall.dn (checkLog_c _ _ _ (by omega)) ?_ ?_ ?_; rfl; rfl)
    | (with_reducible refine' CallZ.l (PCall.kn (last_c _ _ _ ⟨b1, b2⟩ b3) ?_ ?_ ?_); rfl; rfl)
    | (with_reducible refine' PCall.kn (last_c _ _ _ ⟨b1, b2⟩ b3) ?_ ?_ ?_; rfl; rfl)
    | (with_reducible refine' PCall.dn (last_c _ _ _ ⟨b1, b2⟩ b3) ?_ ?_ ?_; rfl; rfl)
    | (with_reducible refine CallZ.z ?_)
    | (simp -dsimp [go_sem, h]))
  all_goals simp_all [newer]
set_option maxHeartbeats 4000000 in
set_option maxRecDepth 100000 in
theorem newerOrder_c (l m : List Deed) (a b : Int) (hl : (l.length : Int) ≤ 9223372036854775807) (hm : (m.length : Int) ≤ 9223372036854775807) (hd : ∀ d ∈ l, d.Ok) (hd' : ∀ d ∈ m, d.Ok) (ha : i64 a) (hb : i64 b) :
    PCall Try.prog G 7 [.one (.v (.sl (l.map Deed.row))), .one (.v (.sl (m.map Deed.row))), iV a, iV b] (bV true) := by
  have ok := made_ok l a hd
  have ok' := made_ok m b hd'
  have hlog := log_c (G := G) l a hl hd ha
  have hlog' := log_c (G := G) m b hm hd' hb
  change PCall Try.prog G _ _ (.agg (logC (pk a 12) (logBT a) (logItems l a))) at hlog
  change PCall Try.prog G _ _ (.agg (logC (pk b 12) (logBT b) (logItems m b))) at hlog'
  generalize pk a 12 = B at *
  generalize logBT a = T at *
  generalize logItems l a = X at *
  generalize pk b 12 = B' at *
  generalize logBT b = T' at *
  generalize logItems m b = X' at *
  have t0 : (newer B T X (B' + X'.length) (lastTerm T' X') || newer B' T' X' (B + X.length) (lastTerm T X)) = true := by
    simp only [newer, Bool.or_eq_true, Bool.and_eq_true, decide_eq_true_eq]; omega
  have t1 : newer B T X (B' + X'.length) (lastTerm T' X') = (decide (lastTerm T X < lastTerm T' X') || (decide (lastTerm T' X' = lastTerm T X) && decide (B + X.length ≤ B' + X'.length))) := rfl
  obtain ⟨x, hx⟩ : ∃ x, newer B T X (B' + X'.length) (lastTerm T' X') = x := ⟨_, rfl⟩
  obtain ⟨y, hy⟩ : ∃ y, newer B' T' X' (B + X.length) (lastTerm T X) = y := ⟨_, rfl⟩
  rw [hx, hy] at t0
  rw [hx] at t1
  refine pcall mixed Try.func7 ok_rostrumkeep_NewerOrder rs_rostrumkeep_NewerOrder (by simp [Try.f7]) ?_
  unfold ac_rostrumkeep_NewerOrder
  repeat' (first
    | (with_reducible refine Cnd.intro (fun h => ?_) (fun h => ?_))
    | (with_reducible refine And.intro ?_ ?_)
    | (with_reducible refine Wk.refl ?_)
    | (with_reducible refine weak_auto ?_)
    | (with_reducible refine CallZ.l (PCall.kf (hlog) ?_ ?_))
    | (with_reducible refine PCall.kf (hlog) ?_ ?_)
    | (with_reducible refine PCall.df (hlog) ?_ ?_)
    | (with_reducible refine CallZ.l (PCall.kf (hlog') ?_ ?_))
    | (with_reducible refine PCall.kf (hlog') ?_ ?_)
    | (with_reducible refine PCall.df (hlog') ?_ ?_)
    | (with_reducible refine CallZ.l (PCall.kf (lastGood_c _ _ _ ok) ?_ ?_))
    | (with_reducible refine PCall.kf (lastGood_c _ _ _ ok) ?_ ?_)
    | (with_reducible refine PCall.df (lastGood_c _ _ _ ok) ?_ ?_)
    | (with_reducible refine CallZ.l (PCall.kf (lastGood_c _ _ _ ok') ?_ ?_))
    | (with_reducible refine PCall.kf (lastGood_c _ _ _ ok') ?_ ?_)
    | (with_reducible refine PCall.df (lastGood_c _ _ _ ok') ?_ ?_)
    | (with_reducible refine CallZ.l (PCall.kf (newerGood_c _ _ _ _ _ ok) ?_ ?_))
    | (with_reducible refine PCall.kf (newerGood_c _ _ _ _ _ ok) ?_ ?_)
    | (with_reducible refine PCall.df (newerGood_c _ _ _ _ _ ok) ?_ ?_)
    | (with_reducible refine CallZ.l (PCall.kf (newerGood_c _ _ _ _ _ ok') ?_ ?_))
    | (with_reducible refine PCall.kf (newerGood_c _ _ _ _ _ ok') ?_ ?_)
    | (with_reducible refine PCall.df (newerGood_c _ _ _ _ _ ok') ?_ ?_)
    | (with_reducible refine' CallZ.l (PCall.kn (hlog) ?_ ?_ ?_); rfl; rfl)
    | (with_reducible refine' PCall.kn (hlog) ?_ ?_ ?_; rfl; rfl)
    | (with_reducible refine' PCall.dn (hlog) ?_ ?_ ?_; rfl; rfl)
    | (with_reducible refine' CallZ.l (PCall.kn (hlog') ?_ ?_ ?_); rfl; rfl)
    | (with_reducible refine' PCall.kn (hlog') ?_ ?_ ?_; rfl; rfl)
    | (with_reducible refine' PCall.dn (hlog') ?_ ?_ ?_; rfl; rfl)
    | (with_reducible refine' CallZ.l (PCall.kn (lastGood_c _ _ _ ok) ?_ ?_ ?_); rfl; rfl)
    | (with_reducible refine' PCall.kn (lastGood_c _ _ _ ok) ?_ ?_ ?_; rfl; rfl)
    | (with_reducible refine' PCall.dn (lastGood_c _ _ _ ok) ?_ ?_ ?_; rfl; rfl)
    | (with_reducible refine' CallZ.l (PCall.kn (lastGood_c _ _ _ ok') ?_ ?_ ?_); rfl; rfl)
    | (with_reducible refine' PCall.kn (lastGood_c _ _ _ ok') ?_ ?_ ?_; rfl; rfl)
    | (with_reducible refine' PCall.dn (lastGood_c _ _ _ ok') ?_ ?_ ?_; rfl; rfl)
    | (with_reducible refine' CallZ.l (PCall.kn (newerGood_c _ _ _ _ _ ok) ?_ ?_ ?_); rfl; rfl)
    | (with_reducible refine' PCall.kn (newerGood_c _ _ _ _ _ ok) ?_ ?_ ?_; rfl; rfl)
    | (with_reducible refine' PCall.dn (newerGood_c _ _ _ _ _ ok) ?_ ?_ ?_; rfl; rfl)
    | (with_reducible refine' CallZ.l (PCall.kn (newerGood_c _ _ _ _ _ ok') ?_ ?_ ?_); rfl; rfl)
    | (with_reducible refine' PCall.kn (newerGood_c _ _ _ _ _ ok') ?_ ?_ ?_; rfl; rfl)
    | (with_reducible refine' PCall.dn (newerGood_c _ _ _ _ _ ok') ?_ ?_ ?_; rfl; rfl)
    | (with_reducible refine CallZ.z ?_)
    | (simp -dsimp [go_sem, hx, hy]))
  all_goals (clear hlog hlog' ok ok' hl hm hd hd' ha hb hx hy; first | (simp_all; done) | (simp_all; omega))
set_option maxHeartbeats 4000000 in
set_option maxRecDepth 100000 in
theorem termTold_c (l : List Deed) (base : Int) (hl : (l.length : Int) ≤ 9223372036854775807) (hd : ∀ d ∈ l, d.Ok) (hb : i64 base) :
    PCall Try.prog G 6 [.one (.v (.sl (l.map Deed.row))), iV base] (bV true) := by
  have ok := made_ok l base hd
  have hB := pk_range (n := base) (m := 12) (by omega)
  have hX := logItems_length l base
  have hlog := log_c (G := G) l base hl hd hb
  change PCall Try.prog G _ _ (.agg (logC (pk base 12) (logBT base) (logItems l base))) at hlog
  generalize pk base 12 = B at *
  generalize logBT base = T at *
  generalize logItems l base = X at *
  have e1 : IntKind.i64.wrap (B + 1) = B + 1 := IntWalk.i64_in _ (by omega)
  have e3 : IntKind.i64.wrap (B - 1) = B - 1 := IntWalk.i64_in _ (by omega)
  refine pcall mixed Try.func6 ok_rostrumkeep_TermTold rs_rostrumkeep_TermTold (by simp [Try.f6]) ?_
  unfold ac_rostrumkeep_TermTold
  repeat' (first
    | (with_reducible refine Cnd.intro (fun h => ?_) (fun h => ?_))
    | (with_reducible refine And.intro ?_ ?_)
    | (with_reducible refine Wk.refl ?_)
    | (with_reducible refine weak_auto ?_)
    | (with_reducible refine CallZ.l (PCall.kf (hlog) ?_ ?_))
    | (with_reducible refine PCall.kf (hlog) ?_ ?_)
    | (with_reducible refine PCall.df (hlog) ?_ ?_)
    | (with_reducible refine' CallZ.l (PCall.kn (hlog) ?_ ?_ ?_); rfl; rfl)
    | (with_reducible refine' PCall.kn (hlog) ?_ ?_ ?_; rfl; rfl)
    | (with_reducible refine' PCall.dn (hlog) ?_ ?_ ?_; rfl; rfl)
    | (with_reducible refine CallZ.z ?_)
    | (simp -dsimp [go_sem]))
  refine awp_loop (fun i : Nat => ⟨[(5, .one (.ptr 0 0)), (6, iV i)], G, [some (.box 43 (logC B T X))]⟩) (fun i => i ≤ X.length) (fun i => X.length - i) 0 (weak_auto ?_) (Nat.zero_le _) ?_
  · simp -dsimp [go_sem]
  · intro i hi
    have e2 : IntKind.i64.wrap (B + 1 + i) = B + 1 + i := IntWalk.i64_in _ (by omega)
    have e4 : IntKind.i64.wrap ((i : Int) + 1) = (i : Int) + 1 := IntWalk.i64_in _ (by omega)
    simp -dsimp [go_sem]
    refine Cnd.intro (fun h => ?_) (fun h => ?_)
    · have hlt : i < X.length := by simpa using h
      obtain ⟨y, hy⟩ : ∃ y, X[i]? = some y := ⟨_, List.getElem?_eq_getElem hlt⟩
      have hgi : (X.map Item.row)[i]? = some y.row := by simp [hy]
      have fA : termAt B T X (B + 1 + i) = y.term := by
        unfold termAt
        rw [if_neg (by omega), if_neg (by omega), if_neg (by omega), show (B + 1 + (i : Int) - B - 1).toNat = i by omega, hy]
      have fE : termErr B X.length (B + 1 + i) = 0 := by
        unfold termErr
        rw [if_neg (by omega), if_neg (by omega), if_neg (by omega)]
      repeat' (first
    | (with_reducible refine Cnd.intro (fun h => ?_) (fun h => ?_))
    | (with_reducible refine And.intro ?_ ?_)
    | (with_reducible refine Wk.refl ?_)
    | (with_reducible refine weak_auto ?_)
    | (with_reducible refine CallZ.l (PCall.kf (termGood_c _ _ _ _ ok (by omega)) ?_ ?_))
    | (with_reducible refine PCall.kf (termGood_c _ _ _ _ ok (by omega)) ?_ ?_)
    | (with_reducible refine PCall.df (termGood_c _ _ _ _ ok (by omega)) ?_ ?_)
    | (with_reducible refine' CallZ.l (PCall.kn (termGood_c _ _ _ _ ok (by omega)) ?_ ?_ ?_); rfl; rfl)
    | (with_reducible refine' PCall.kn (termGood_c _ _ _ _ ok (by omega)) ?_ ?_ ?_; rfl; rfl)
    | (with_reducible refine' PCall.dn (termGood_c _ _ _ _ ok (by omega)) ?_ ?_ ?_; rfl; rfl)
    | (with_reducible refine CallZ.z ?_)
    | (simp -dsimp [go_sem, e1, e2, e4, hgi, Item.row, fA, fE]))
      all_goals first
        | (with_reducible refine Again.auto (i + 1) ?_ ?_ ?_)
        | (simp_all; done)
      · simp -dsimp [go_sem]
      · exact hlt
      · show X.length - (i + 1) < X.length - i
        omega
    · have g1 : termAt B T X B = T := by unfold termAt; rw [if_neg (by omega), if_pos rfl]
      have g2 : termErr B X.length B = 0 := by unfold termErr; rw [if_neg (by omega), if_pos rfl]
      have g3 : termErr B X.length (B - 1) = 11 := by unfold termErr; rw [if_pos (by omega)]
      by_cases h0 : B = 0
      · repeat' (first
    | (with_reducible refine Cnd.intro (fun h => ?_) (fun h => ?_))
    | (with_reducible refine And.intro ?_ ?_)
    | (with_reducible refine Wk.refl ?_)
    | (with_reducible refine weak_auto ?_)
    | (with_reducible refine CallZ.l (PCall.kf (termGood_c _ _ _ _ ok (by omega)) ?_ ?_))
    | (with_reducible refine PCall.kf (termGood_c _ _ _ _ ok (by omega)) ?_ ?_)
    | (with_reducible refine PCall.df (termGood_c _ _ _ _ ok (by omega)) ?_ ?_)
    | (with_reducible refine CallZ.l (PCall.kf (termRange_c _ _ _ _ ok (by omega)) ?_ ?_))
    | (with_reducible refine PCall.kf (termRange_c _ _ _ _ ok (by omega)) ?_ ?_)
    | (with_reducible refine PCall.df (termRange_c _ _ _ _ ok (by omega)) ?_ ?_)
    | (with_reducible refine' CallZ.l (PCall.kn (termGood_c _ _ _ _ ok (by omega)) ?_ ?_ ?_); rfl; rfl)
    | (with_reducible refine' PCall.kn (termGood_c _ _ _ _ ok (by omega)) ?_ ?_ ?_; rfl; rfl)
    | (with_reducible refine' PCall.dn (termGood_c _ _ _ _ ok (by omega)) ?_ ?_ ?_; rfl; rfl)
    | (with_reducible refine' CallZ.l (PCall.kn (termRange_c _ _ _ _ ok (by omega)) ?_ ?_ ?_); rfl; rfl)
    | (with_reducible refine' PCall.kn (termRange_c _ _ _ _ ok (by omega)) ?_ ?_ ?_; rfl; rfl)
    | (with_reducible refine' PCall.dn (termRange_c _ _ _ _ ok (by omega)) ?_ ?_ ?_; rfl; rfl)
    | (with_reducible refine CallZ.z ?_)
    | (simp -dsimp [go_sem, e3, g1, g2, g3]))
        all_goals simp_all
      · repeat' (first
    | (with_reducible refine Cnd.intro (fun h => ?_) (fun h => ?_))
    | (with_reducible refine And.intro ?_ ?_)
    | (with_reducible refine Wk.refl ?_)
    | (with_reducible refine weak_auto ?_)
    | (with_reducible refine CallZ.l (PCall.kf (termGood_c _ _ _ _ ok (by omega)) ?_ ?_))
    | (with_reducible refine PCall.kf (termGood_c _ _ _ _ ok (by omega)) ?_ ?_)
    | (with_reducible refine PCall.df (termGood_c _ _ _ _ ok (by omega)) ?_ ?_)
    | (with_reducible refine CallZ.l (PCall.kf (termRange_c _ _ _ _ ok (by omega)) ?_ ?_))
    | (with_reducible refine PCall.kf (termRange_c _ _ _ _ ok (by omega)) ?_ ?_)
    | (with_reducible refine PCall.df (termRange_c _ _ _ _ ok (by omega)) ?_ ?_)
    | (with_reducible refine' CallZ.l (PCall.kn (termGood_c _ _ _ _ ok (by omega)) ?_ ?_ ?_); rfl; rfl)
    | (with_reducible refine' PCall.kn (termGood_c _ _ _ _ ok (by omega)) ?_ ?_ ?_; rfl; rfl)
    | (with_reducible refine' PCall.dn (termGood_c _ _ _ _ ok (by omega)) ?_ ?_ ?_; rfl; rfl)
    | (with_reducible refine' CallZ.l (PCall.kn (termRange_c _ _ _ _ ok (by omega)) ?_ ?_ ?_); rfl; rfl)
    | (with_reducible refine' PCall.kn (termRange_c _ _ _ _ ok (by omega)) ?_ ?_ ?_; rfl; rfl)
    | (with_reducible refine' PCall.dn (termRange_c _ _ _ _ ok (by omega)) ?_ ?_ ?_; rfl; rfl)
    | (with_reducible refine CallZ.z ?_)
    | (simp -dsimp [go_sem, e3, g1, g2, g3]))
        all_goals simp_all
end Go.Proofs.Ytlgcebeianjaiaa
