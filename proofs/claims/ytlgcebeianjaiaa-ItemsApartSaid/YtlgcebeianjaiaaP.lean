/- The functions rostrumkeep.LastTold and TermTold answer true. -/
import Derived.Test.YtlgcebeianjaiaaN
set_option linter.unusedVariables false
set_option linter.unusedSimpArgs false
set_option maxRecDepth 100000
set_option maxHeartbeats 8000000
namespace Go.Proofs.Ytlgcebeianjaiaa
open Go Go.RowKit Go.Proofs.AE
variable {G : Nat → AV}
theorem termAt_last (B T : Int) (x : List Item) : termAt B T x (B + x.length) = lastTerm T x := by
  unfold termAt lastTerm
  rw [if_neg (by omega)]
  by_cases h : x.length = 0
  · rw [if_pos (by omega)]
    rw [List.getElem?_eq_none (by omega)]
  · rw [if_neg (by omega), if_neg (by omega)]
    rw [show (B + (x.length : Int) - B - 1).toNat = x.length - 1 by omega, List.getElem?_eq_getElem (by omega)]
theorem lastTold_c (l : List Deed) (base : Int) (hl : (l.length : Int) ≤ 9223372036854775807) (hd : ∀ d ∈ l, d.Ok) (hb : i64 base) :
    PCall Try.prog G 10 [.one (.v (.sl (l.map Deed.row))), iV base] (bV true) := by
  have ok := made_ok l base hd
  have hB := pk_range (n := base) (m := 12) (by omega)
  have hX := logItems_length l base
  have hlog := log_c (G := G) l base hl hd hb
  change PCall Try.prog G _ _ (.agg (logC (pk base 12) (logBT base) (logItems l base))) at hlog
  generalize pk base 12 = B at *
  generalize logBT base = T at *
  generalize logItems l base = X at *
  have f1 := termAt_last B T X
  have f2 : termErr B X.length (B + X.length) = 0 := by
    unfold termErr
    rw [if_neg (by omega)]
    split
    · rfl
    · rw [if_neg (by omega)]
  have f3 : termErr B X.length (B + X.length + 1) = 5 := by
    unfold termErr
    rw [if_neg (by omega), if_neg (by omega), if_pos (by omega)]
  have e1 : IntKind.i64.wrap (B + X.length + 1) = B + X.length + 1 := IntWalk.i64_in _ (by omega)
  have e2 : IntKind.i64.wrap (B + X.length) = B + X.length := IntWalk.i64_in _ (by omega)
  refine pcall mixed Try.func10 ok_rostrumkeep_LastTold rs_rostrumkeep_LastTold (by simp [Try.f10]) ?_
  unfold ac_rostrumkeep_LastTold
  repeat' (first
    | (with_reducible refine Cnd.intro (fun h => ?_) (fun h => ?_))
    | (with_reducible refine And.intro ?_ ?_)
    | (with_reducible refine Wk.refl ?_)
    | (with_reducible exact Weak.refl _ _)
    | (with_reducible refine weak_auto ?_)
    | (with_reducible apply awp_join)
    | (with_reducible refine CallZ.l (PCall.kf (hlog) ?_ ?_))
    | (with_reducible refine PCall.kf (hlog) ?_ ?_)
    | (with_reducible refine PCall.df (hlog) ?_ ?_)
    | (with_reducible refine CallZ.l (PCall.kf (lastGood_c _ _ _ ok) ?_ ?_))
    | (with_reducible refine PCall.kf (lastGood_c _ _ _ ok) ?_ ?_)
    | (with_reducible refine PCall.df (lastGood_c _ _ _ ok) ?_ ?_)
    | (with_reducible refine CallZ.l (PCall.kf (termGood_c _ _ _ _ ok (by omega)) ?_ ?_))
    | (with_reducible refine PCall.kf (termGood_c _ _ _ _ ok (by omega)) ?_ ?_)
    | (with_reducible refine PCall.df (termGood_c _ _ _ _ ok (by omega)) ?_ ?_)
    | (with_reducible refine CallZ.l (PCall.kf (checkLog_c _ _ _ (by omega)) ?_ ?_))
    | (with_reducible refine PCall.kf (checkLog_c _ _ _ (by omega)) ?_ ?_)
    | (with_reducible refine PCall.df (checkLog_c _ _ _ (by omega)) ?_ ?_)
    | (with_reducible refine CallZ.l (PCall.kn (hlog) (by with_unfolding_all rfl) (by with_unfolding_all rfl) ?_))
    | (with_reducible refine PCall.kn (hlog) (by with_unfolding_all rfl) (by with_unfolding_all rfl) ?_)
    | (with_reducible refine PCall.dn (hlog) (by with_unfolding_all rfl) (by with_unfolding_all rfl) ?_)
    | (with_reducible refine CallZ.l (PCall.kn (lastGood_c _ _ _ ok) (by with_unfolding_all rfl) (by with_unfolding_all rfl) ?_))
    | (with_reducible refine PCall.kn (lastGood_c _ _ _ ok) (by with_unfolding_all rfl) (by with_unfolding_all rfl) ?_)
    | (with_reducible refine PCall.dn (lastGood_c _ _ _ ok) (by with_unfolding_all rfl) (by with_unfolding_all rfl) ?_)
    | (with_reducible refine CallZ.l (PCall.kn (termGood_c _ _ _ _ ok (by omega)) (by with_unfolding_all rfl) (by with_unfolding_all rfl) ?_))
    | (with_reducible refine PCall.kn (termGood_c _ _ _ _ ok (by omega)) (by with_unfolding_all rfl) (by with_unfolding_all rfl) ?_)
    | (with_reducible refine PCall.dn (termGood_c _ _ _ _ ok (by omega)) (by with_unfolding_all rfl) (by with_unfolding_all rfl) ?_)
    | (with_reducible refine CallZ.l (PCall.kn (checkLog_c _ _ _ (by omega)) (by with_unfolding_all rfl) (by with_unfolding_all rfl) ?_))
    | (with_reducible refine PCall.kn (checkLog_c _ _ _ (by omega)) (by with_unfolding_all rfl) (by with_unfolding_all rfl) ?_)
    | (with_reducible refine PCall.dn (checkLog_c _ _ _ (by omega)) (by with_unfolding_all rfl) (by with_unfolding_all rfl) ?_)
    | ((with_reducible refine PCall.dz (hlog) (by with_unfolding_all rfl) (by with_unfolding_all rfl) ?_); rotate_right; rintro zh1 zq1; (try simp -dsimp [go_sem] at zq1); obtain ⟨rfl⟩ := zq1)
    | ((with_reducible refine PCall.dz (lastGood_c _ _ _ ok) (by with_unfolding_all rfl) (by with_unfolding_all rfl) ?_); rotate_right; rintro zh1 zq1; (try simp -dsimp [go_sem] at zq1); obtain ⟨rfl⟩ := zq1)
    | ((with_reducible refine PCall.dz (termGood_c _ _ _ _ ok (by omega)) (by with_unfolding_all rfl) (by with_unfolding_all rfl) ?_); rotate_right; rintro zh1 zq1; (try simp -dsimp [go_sem] at zq1); obtain ⟨rfl⟩ := zq1)
    | ((with_reducible refine PCall.dz (checkLog_c _ _ _ (by omega)) (by with_unfolding_all rfl) (by with_unfolding_all rfl) ?_); rotate_right; rintro zh1 zq1; (try simp -dsimp [go_sem] at zq1); obtain ⟨rfl⟩ := zq1)
    | (with_reducible refine CallZ.z ?_)
    | (simp -dsimp [go_sem, e1, e2, f1, f2, f3, ok]))
end Go.Proofs.Ytlgcebeianjaiaa
