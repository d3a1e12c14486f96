/- Logs: what makes them, what checks them. -/
import Derived.Test.YtniihihcklpdgaaK
set_option linter.unusedVariables false
set_option linter.unusedSimpArgs false
set_option maxRecDepth 100000
set_option maxHeartbeats 8000000
namespace Go.Proofs.Ytniihihcklpdgaa
open Go Go.RowKit Go.Proofs.AE
variable {G : Nat → AV}
noncomputable def logItems (l : List Deed) (base : Int) : List Item := itemsOf l (if pk base 12 = 0 then 1 else 2)
abbrev logC (base bt : Int) (x : List Item) : List C := [iC base, iC bt, .v (.sl (x.map Item.row))]
theorem log_c (l : List Deed) (base : Int) (hl : (l.length : Int) ≤ 9223372036854775807) (hd : ∀ d ∈ l, d.Ok) (hb : i64 base) :
    PCall Try.prog G 19 [.one (.v (.sl (l.map Deed.row))), iV base] (.agg (logC (pk base 12) (if pk base 12 = 0 then 0 else 2) (logItems l base))) := by
  refine pcall mixed Try.func19 ok_rostrumkeep_Log rs_rostrumkeep_Log (by simp [Try.f19]) ?_
  unfold ac_rostrumkeep_Log
  repeat' (first
    | (with_reducible refine Cnd.intro (fun h => ?_) (fun h => ?_))
    | (with_reducible refine And.intro ?_ ?_)
    | (with_reducible refine Wk.refl ?_)
    | (with_reducible exact Weak.refl _ _)
    | (with_reducible refine weak_auto ?_)
    | (with_reducible apply awp_join)
    | (with_reducible refine CallZ.l (PCall.kf (picked_c _ _ (by assumption) (by simp)) ?_ ?_))
    | (with_reducible refine PCall.kf (picked_c _ _ (by assumption) (by simp)) ?_ ?_)
    | (with_reducible refine PCall.df (picked_c _ _ (by assumption) (by simp)) ?_ ?_)
    | (with_reducible refine CallZ.l (PCall.kf (items_c _ _ (by assumption) (by assumption) (by simp)) ?_ ?_))
    | (with_reducible refine PCall.kf (items_c _ _ (by assumption) (by assumption) (by simp)) ?_ ?_)
    | (with_reducible refine PCall.df (items_c _ _ (by assumption) (by assumption) (by simp)) ?_ ?_)
    | (with_reducible refine CallZ.l (PCall.kn (picked_c _ _ (by assumption) (by simp)) (by with_unfolding_all rfl) (by with_unfolding_all rfl) ?_))
    | (with_reducible refine PCall.kn (picked_c _ _ (by assumption) (by simp)) (by with_unfolding_all rfl) (by with_unfolding_all rfl) ?_)
    | (with_reducible refine PCall.dn (picked_c _ _ (by assumption) (by simp)) (by with_unfolding_all rfl) (by with_unfolding_all rfl) ?_)
    | (with_reducible refine CallZ.l (PCall.kn (items_c _ _ (by assumption) (by assumption) (by simp)) (by with_unfolding_all rfl) (by with_unfolding_all rfl) ?_))
    | (with_reducible refine PCall.kn (items_c _ _ (by assumption) (by assumption) (by simp)) (by with_unfolding_all rfl) (by with_unfolding_all rfl) ?_)
    | (with_reducible refine PCall.dn (items_c _ _ (by assumption) (by assumption) (by simp)) (by with_unfolding_all rfl) (by with_unfolding_all rfl) ?_)
    | ((with_reducible refine PCall.dz (picked_c _ _ (by assumption) (by simp)) (by with_unfolding_all rfl) (by with_unfolding_all rfl) ?_); rotate_right; rintro zh1 zq1; (try simp -dsimp [go_sem] at zq1); obtain ⟨rfl⟩ := zq1)
    | ((with_reducible refine PCall.dz (items_c _ _ (by assumption) (by assumption) (by simp)) (by with_unfolding_all rfl) (by with_unfolding_all rfl) ?_); rotate_right; rintro zh1 zq1; (try simp -dsimp [go_sem] at zq1); obtain ⟨rfl⟩ := zq1)
    | (with_reducible refine CallZ.z ?_)
    | (simp -dsimp [go_sem]))
  all_goals simp_all [logItems, coeCs, coeC]
/-- Are items in order behind a term and a time? -/
def chk : List Item → Int → Int → Bool
  | [], _, _ => true
  | x :: l, t, m => x.check == 0 && (decide (t ≤ x.term) && (decide (m ≤ x.time) && chk l x.term x.time))
def headOk (base bt : Int) (len : Nat) : Bool :=
  !decide (base < 0) && (!decide (bt < 0) && (!decide (1048576 < bt) && ((base == 0) == (bt == 0) && (!decide (200 < (len : Int)) && !decide (1048576 - (len : Int) < base)))))
def checkLog (base bt : Int) (x : List Item) : Int := if headOk base bt x.length then (if chk x bt 0 then 0 else 13) else 13
theorem checkLog_c (base bt : Int) (x : List Item) (hx : (x.length : Int) ≤ 9223372036854775807) :
    PCall Try.prog G 27 [.agg (logC base bt x)] (iV (checkLog base bt x)) := by
  refine pcall mixed Try.func27 ok_ledger_Check rs_ledger_Check (by simp [Try.f27]) ?_
  unfold ac_ledger_Check
  have e1 : IntKind.i64.wrap (1048576 - (x.length : Int)) = 1048576 - (x.length : Int) := IntWalk.i64_in _ (by omega)
  repeat' (first
    | (with_reducible refine Cnd.intro (fun h => ?_) (fun h => ?_))
    | (with_reducible refine And.intro ?_ ?_)
    | (with_reducible refine Wk.refl ?_)
    | (with_reducible exact Weak.refl _ _)
    | (with_reducible refine weak_auto ?_)
    | (with_reducible apply awp_join)
    | (with_reducible refine CallZ.z ?_)
    | (simp -dsimp [go_sem, e1]))
  all_goals first
    | (with_reducible refine awp_loop (fun y : Nat × Int × Int => ⟨[(3, iV y.2.1), (4, iV y.2.2), (47, .one (.v (.sl (x.map Item.row)))), (48, iV x.length), (49, iV y.1)], G, []⟩) (fun y => y.1 ≤ x.length ∧ chk x bt 0 = chk (x.drop y.1) y.2.1 y.2.2) (fun y => x.length - y.1) (0, bt, 0) ?_ ?_ ?_)
    | (simp only [Bool.not_true, Bool.not_false] at *; simp only [checkLog, headOk, *]; rfl)
    | (simp_all [checkLog, headOk]; done)
  · refine weak_auto ?_
    simp -dsimp [go_sem]
  · simp
  · have hh : headOk base bt x.length = true := by simp_all [headOk]
    have hcl : checkLog base bt x = if chk x bt 0 then 0 else 13 := by simp [checkLog, hh]
    rintro ⟨i, t, m⟩ ⟨a1, a2⟩
    simp only at a1 a2
    rw [a2] at hcl
    simp -dsimp [go_sem]
    refine Cnd.intro (fun h => ?_) (fun h => ?_)
    · have hlt : i < x.length := by simpa using h
      obtain ⟨y, hy⟩ : ∃ y, x[i]? = some y := ⟨_, List.getElem?_eq_getElem hlt⟩
      have hgi : (x.map Item.row)[i]? = some y.row := by simp [hy]
      have hdrop : x.drop i = y :: x.drop (i + 1) := by
        rw [List.drop_eq_getElem_cons hlt]
        congr 1
        rw [List.getElem?_eq_getElem hlt] at hy
        exact Option.some.inj hy
      rw [hdrop] at hcl a2
      have n1 : decide (t ≤ y.term) = !decide (y.term < t) := by by_cases h : t ≤ y.term <;> simp [h] <;> omega
      have n2 : decide (m ≤ y.time) = !decide (y.time < m) := by by_cases h : m ≤ y.time <;> simp [h] <;> omega
      have n3 : (y.check == 0) = !(y.check != 0) := by simp [bne]
      simp only [chk, n1, n2, n3] at hcl a2
      have hck : checkItem y.term y.time y.nop y.client y.seq y.k y.key y.field y.text y.n = y.check := rfl
      have e4 : IntKind.i64.wrap ((i : Int) + 1) = (i : Int) + 1 := IntWalk.i64_in _ (by omega)
      repeat' (first
    | (with_reducible refine Cnd.intro (fun h => ?_) (fun h => ?_))
    | (with_reducible refine And.intro ?_ ?_)
    | (with_reducible refine Wk.refl ?_)
    | (with_reducible exact Weak.refl _ _)
    | (with_reducible refine weak_auto ?_)
    | (with_reducible apply awp_join)
    | (with_reducible refine CallZ.l (PCall.kf (checkItem_c _ _ _ _ _ _ _ _ _ _) ?_ ?_))
    | (with_reducible refine PCall.kf (checkItem_c _ _ _ _ _ _ _ _ _ _) ?_ ?_)
    | (with_reducible refine PCall.df (checkItem_c _ _ _ _ _ _ _ _ _ _) ?_ ?_)
    | (with_reducible refine CallZ.l (PCall.kn (checkItem_c _ _ _ _ _ _ _ _ _ _) (by with_unfolding_all rfl) (by with_unfolding_all rfl) ?_))
    | (with_reducible refine PCall.kn (checkItem_c _ _ _ _ _ _ _ _ _ _) (by with_unfolding_all rfl) (by with_unfolding_all rfl) ?_)
    | (with_reducible refine PCall.dn (checkItem_c _ _ _ _ _ _ _ _ _ _) (by with_unfolding_all rfl) (by with_unfolding_all rfl) ?_)
    | ((with_reducible refine PCall.dz (checkItem_c _ _ _ _ _ _ _ _ _ _) (by with_unfolding_all rfl) (by with_unfolding_all rfl) ?_); rotate_right; rintro zh1 zq1; (try simp -dsimp [go_sem] at zq1); obtain ⟨rfl⟩ := zq1)
    | (with_reducible refine CallZ.z ?_)
    | (simp -dsimp [go_sem, hgi, Item.row, hck, e4]))
      all_goals first
        | (with_reducible refine Again.view (i + 1, y.term, y.time) [] [] ?_ ?_ ?_ ?_ ?_ ?_ ?_ ?_)
        | (simp only [Bool.not_true, Bool.not_false] at *; simp only [hcl, *]; rfl)
        | (simp_all; done)
      · rfl
      · rfl
      · simp
      · simp
      · simp -dsimp [go_sem]
      · exact trivial
      · refine ⟨hlt, ?_⟩
        simp only [Bool.not_true, Bool.not_false] at *
        simp only [a2, *]
        simp
      · show x.length - (i + 1) < x.length - i
        omega
    · have hge : ¬ i < x.length := by simpa using h
      have : i = x.length := by omega
      subst this
      simp [chk] at hcl
      simp -dsimp [go_sem, hcl]
end Go.Proofs.Ytniihihcklpdgaa
