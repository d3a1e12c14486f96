/- Places and terms of logs. -/
import Derived.Test.YtniihihcklpdgaaL
set_option linter.unusedVariables false
set_option linter.unusedSimpArgs false
set_option maxRecDepth 100000
set_option maxHeartbeats 8000000
namespace Go.Proofs.Ytniihihcklpdgaa
open Go Go.RowKit Go.Proofs.AE
variable {G : Nat → AV}
def lastTerm (bt : Int) (x : List Item) : Int := match x[x.length - 1]? with | some y => y.term | none => bt
theorem last_c (base bt : Int) (x : List Item) (hb : 0 ≤ base ∧ base ≤ 1048576) (hx : x.length ≤ 200) : PCall Try.prog G 37 [.agg (logC base bt x)] (.tup [iV (base + x.length), iV (lastTerm bt x)]) := by
  have e1 : IntKind.i64.wrap (base + x.length) = base + x.length := IntWalk.i64_in _ (by omega)
  have e2 : IntKind.i64.wrap ((x.length : Int) - 1) = (x.length : Int) - 1 := IntWalk.i64_in _ (by omega)
  refine pcall mixed Try.func37 ok_ledger_last rs_ledger_last (by simp [Try.f37]) ?_
  unfold ac_ledger_last
  by_cases h0 : 0 < x.length
  · obtain ⟨y, hy⟩ : ∃ y, x[x.length - 1]? = some y := ⟨_, List.getElem?_eq_getElem (by omega)⟩
    have hl : lastTerm bt x = y.term := by unfold lastTerm; rw [hy]
    have hn : ((x.length : Int) - 1).toNat = x.length - 1 := by omega
    have hgi : (x.map Item.row)[x.length - 1]? = some y.row := by rw [List.getElem?_map, hy]; rfl
    have hne : ¬ x = [] := by intro h; rw [h] at h0; simp at h0
    rw [hl]
    repeat' (first
    | (with_reducible refine Cnd.intro (fun h => ?_) (fun h => ?_))
    | (with_reducible refine And.intro ?_ ?_)
    | (with_reducible refine Wk.refl ?_)
    | (with_reducible exact Weak.refl _ _)
    | (with_reducible refine weak_auto ?_)
    | (with_reducible apply awp_join)
    | (with_reducible refine CallZ.z ?_)
    | (simp -dsimp [go_sem, e1, e2, hn, hgi, Item.row]))
    all_goals first | omega | simp_all
  · have hx0 : x = [] := List.eq_nil_of_length_eq_zero (by omega)
    subst hx0
    repeat' (first
    | (with_reducible refine Cnd.intro (fun h => ?_) (fun h => ?_))
    | (with_reducible refine And.intro ?_ ?_)
    | (with_reducible refine Wk.refl ?_)
    | (with_reducible exact Weak.refl _ _)
    | (with_reducible refine weak_auto ?_)
    | (with_reducible apply awp_join)
    | (with_reducible refine CallZ.z ?_)
    | (simp -dsimp [go_sem, lastTerm]))
    all_goals simp_all [lastTerm]
theorem last_c' (base bt : Int) (x : List Item) (h : checkLog base bt x = 0) : 0 ≤ base ∧ base ≤ 1048576 ∧ x.length ≤ 200 ∧ 0 ≤ bt ∧ bt ≤ 1048576 := by
  unfold checkLog at h
  split at h
  · rename_i hh
    simp [headOk] at hh
    omega
  · cases h
theorem lastGood_c (base bt : Int) (x : List Item) (h : checkLog base bt x = 0) : PCall Try.prog G 24 [.agg (logC base bt x)] (.tup [iV (base + x.length), iV (lastTerm bt x), iV 0]) := by
  obtain ⟨b1, b2, b3, b4, b5⟩ := last_c' base bt x h
  refine pcall mixed Try.func24 ok_ledger_Last rs_ledger_Last (by simp [Try.f24]) ?_
  unfold ac_ledger_Last
  repeat' (first
    | (with_reducible refine Cnd.intro (fun h => ?_) (fun h => ?_))
    | (with_reducible refine And.intro ?_ ?_)
    | (with_reducible refine Wk.refl ?_)
    | (with_reducible exact Weak.refl _ _)
    | (with_reducible refine weak_auto ?_)
    | (with_reducible apply awp_join)
    | (with_reducible refine CallZ.l (PCall.kf (checkLog_c _ _ _ (by omega)) ?_ ?_))
    | (with_reducible refine PCall.kf (checkLog_c _ _ _ (by omega)) ?_ ?_)
    | (with_reducible refine PCall.df (checkLog_c _ _ _ (by omega)) ?_ ?_)
    | (with_reducible refine CallZ.l (PCall.kf (last_c _ _ _ ⟨b1, b2⟩ b3) ?_ ?_))
    | (with_reducible refine PCall.kf (last_c _ _ _ ⟨b1, b2⟩ b3) ?_ ?_)
    | (with_reducible refine PCall.df (last_c _ _ _ ⟨b1, b2⟩ b3) ?_ ?_)
    | (with_reducible refine CallZ.l (PCall.kn (checkLog_c _ _ _ (by omega)) (by with_unfolding_all rfl) (by with_unfolding_all rfl) ?_))
    | (with_reducible refine PCall.kn (checkLog_c _ _ _ (by omega)) (by with_unfolding_all rfl) (by with_unfolding_all rfl) ?_)
    | (with_reducible refine PCall.dn (checkLog_c _ _ _ (by omega)) (by with_unfolding_all rfl) (by with_unfolding_all rfl) ?_)
    | (with_reducible refine CallZ.l (PCall.kn (last_c _ _ _ ⟨b1, b2⟩ b3) (by with_unfolding_all rfl) (by with_unfolding_all rfl) ?_))
    | (with_reducible refine PCall.kn (last_c _ _ _ ⟨b1, b2⟩ b3) (by with_unfolding_all rfl) (by with_unfolding_all rfl) ?_)
    | (with_reducible refine PCall.dn (last_c _ _ _ ⟨b1, b2⟩ b3) (by with_unfolding_all rfl) (by with_unfolding_all rfl) ?_)
    | ((with_reducible refine PCall.dz (checkLog_c _ _ _ (by omega)) (by with_unfolding_all rfl) (by with_unfolding_all rfl) ?_); rotate_right; rintro zh1 zq1; (try simp -dsimp [go_sem] at zq1); obtain ⟨rfl⟩ := zq1)
    | ((with_reducible refine PCall.dz (last_c _ _ _ ⟨b1, b2⟩ b3) (by with_unfolding_all rfl) (by with_unfolding_all rfl) ?_); rotate_right; rintro zh1 zq1; (try simp -dsimp [go_sem] at zq1); obtain ⟨rfl⟩ := zq1)
    | (with_reducible refine CallZ.z ?_)
    | (simp -dsimp [go_sem, h]))
/-- The term of a place, and what is wrong. -/
def termAt (base bt : Int) (x : List Item) (place : Int) : Int := if place < base then 0 else if place = base then bt else if (x.length : Int) < place - base then 0 else match x[(place - base - 1).toNat]? with | some y => y.term | none => 0
def termErr (base : Int) (len : Nat) (place : Int) : Int := if place < base then 11 else if place = base then 0 else if (len : Int) < place - base then 5 else 0
theorem term_c (base bt : Int) (x : List Item) (place : Int) (hb : 0 ≤ base ∧ base ≤ 1048576) (hx : x.length ≤ 200) (hp : 0 ≤ place ∧ place ≤ 1048576) : PCall Try.prog G 35 [.agg (logC base bt x), iV place] (.tup [iV (termAt base bt x place), iV (termErr base x.length place)]) := by
  have e1 : IntKind.i64.wrap (place - base) = place - base := IntWalk.i64_in _ (by omega)
  have e2 : IntKind.i64.wrap (place - base - 1) = place - base - 1 := IntWalk.i64_in _ (by omega)
  by_cases h1 : place < base
  · refine pcall mixed Try.func35 ok_ledger_term rs_ledger_term (by simp [Try.f35]) ?_
    unfold ac_ledger_term
    repeat' (first
    | (with_reducible refine Cnd.intro (fun h => ?_) (fun h => ?_))
    | (with_reducible refine And.intro ?_ ?_)
    | (with_reducible refine Wk.refl ?_)
    | (with_reducible exact Weak.refl _ _)
    | (with_reducible refine weak_auto ?_)
    | (with_reducible apply awp_join)
    | (with_reducible refine CallZ.z ?_)
    | (simp -dsimp [go_sem, h1, termAt, termErr]))
  by_cases h2 : place = base
  · refine pcall mixed Try.func35 ok_ledger_term rs_ledger_term (by simp [Try.f35]) ?_
    unfold ac_ledger_term
    subst h2
    repeat' (first
    | (with_reducible refine Cnd.intro (fun h => ?_) (fun h => ?_))
    | (with_reducible refine And.intro ?_ ?_)
    | (with_reducible refine Wk.refl ?_)
    | (with_reducible exact Weak.refl _ _)
    | (with_reducible refine weak_auto ?_)
    | (with_reducible apply awp_join)
    | (with_reducible refine CallZ.z ?_)
    | (simp -dsimp [go_sem, termAt, termErr]))
  by_cases h3 : (x.length : Int) < place - base
  · refine pcall mixed Try.func35 ok_ledger_term rs_ledger_term (by simp [Try.f35]) ?_
    unfold ac_ledger_term
    repeat' (first
    | (with_reducible refine Cnd.intro (fun h => ?_) (fun h => ?_))
    | (with_reducible refine And.intro ?_ ?_)
    | (with_reducible refine Wk.refl ?_)
    | (with_reducible exact Weak.refl _ _)
    | (with_reducible refine weak_auto ?_)
    | (with_reducible apply awp_join)
    | (with_reducible refine CallZ.z ?_)
    | (simp -dsimp [go_sem, h1, h2, h3, e1, termAt, termErr]))
    all_goals simp_all
  · obtain ⟨y, hy⟩ : ∃ y, x[(place - base - 1).toNat]? = some y := ⟨_, List.getElem?_eq_getElem (by omega)⟩
    have hgi : (x.map Item.row)[(place - base - 1).toNat]? = some y.row := by rw [List.getElem?_map, hy]; rfl
    have hgi' : (x.map Item.row)[(place - base).toNat - 1]? = some y.row := by rw [show (place - base).toNat - 1 = (place - base - 1).toNat by omega]; exact hgi
    have hpos : 0 ≤ place - base - 1 := by omega
    have hta : termAt base bt x place = y.term := by unfold termAt; rw [if_neg h1, if_neg h2, if_neg h3, hy]
    have hte : termErr base x.length place = 0 := by unfold termErr; rw [if_neg h1, if_neg h2, if_neg h3]
    refine pcall mixed Try.func35 ok_ledger_term rs_ledger_term (by simp [Try.f35]) ?_
    unfold ac_ledger_term
    rw [hta, hte]
    repeat' (first
    | (with_reducible refine Cnd.intro (fun h => ?_) (fun h => ?_))
    | (with_reducible refine And.intro ?_ ?_)
    | (with_reducible refine Wk.refl ?_)
    | (with_reducible exact Weak.refl _ _)
    | (with_reducible refine weak_auto ?_)
    | (with_reducible apply awp_join)
    | (with_reducible refine CallZ.z ?_)
    | (simp -dsimp [go_sem, h1, h2, h3, e1, e2, hgi, hgi', Item.row]))
    all_goals first | omega | simp_all
theorem termGood_c (base bt : Int) (x : List Item) (place : Int) (h : checkLog base bt x = 0) (hp : 0 ≤ place ∧ place ≤ 1048576) : PCall Try.prog G 29 [.agg (logC base bt x), iV place] (.tup [iV (termAt base bt x place), iV (termErr base x.length place)]) := by
  obtain ⟨b1, b2, b3, b4, b5⟩ := last_c' base bt x h
  have p1 : ¬ place < 0 := by omega
  have p2 : ¬ 1048576 < place := by omega
  refine pcall mixed Try.func29 ok_ledger_Term rs_ledger_Term (by simp [Try.f29]) ?_
  unfold ac_ledger_Term
  repeat' (first
    | (with_reducible refine Cnd.intro (fun h => ?_) (fun h => ?_))
    | (with_reducible refine And.intro ?_ ?_)
    | (with_reducible refine Wk.refl ?_)
    | (with_reducible exact Weak.refl _ _)
    | (with_reducible refine weak_auto ?_)
    | (with_reducible apply awp_join)
    | (with_reducible refine CallZ.l (PCall.kf (checkLog_c _ _ _ (by omega)) ?_ ?_))
    | (with_reducible refine PCall.kf (checkLog_c _ _ _ (by omega)) ?_ ?_)
    | (with_reducible refine PCall.df (checkLog_c _ _ _ (by omega)) ?_ ?_)
    | (with_reducible refine CallZ.l (PCall.kf (term_c _ _ _ _ ⟨b1, b2⟩ b3 hp) ?_ ?_))
    | (with_reducible refine PCall.kf (term_c _ _ _ _ ⟨b1, b2⟩ b3 hp) ?_ ?_)
    | (with_reducible refine PCall.df (term_c _ _ _ _ ⟨b1, b2⟩ b3 hp) ?_ ?_)
    | (with_reducible refine CallZ.l (PCall.kn (checkLog_c _ _ _ (by omega)) (by with_unfolding_all rfl) (by with_unfolding_all rfl) ?_))
    | (with_reducible refine PCall.kn (checkLog_c _ _ _ (by omega)) (by with_unfolding_all rfl) (by with_unfolding_all rfl) ?_)
    | (with_reducible refine PCall.dn (checkLog_c _ _ _ (by omega)) (by with_unfolding_all rfl) (by with_unfolding_all rfl) ?_)
    | (with_reducible refine CallZ.l (PCall.kn (term_c _ _ _ _ ⟨b1, b2⟩ b3 hp) (by with_unfolding_all rfl) (by with_unfolding_all rfl) ?_))
    | (with_reducible refine PCall.kn (term_c _ _ _ _ ⟨b1, b2⟩ b3 hp) (by with_unfolding_all rfl) (by with_unfolding_all rfl) ?_)
    | (with_reducible refine PCall.dn (term_c _ _ _ _ ⟨b1, b2⟩ b3 hp) (by with_unfolding_all rfl) (by with_unfolding_all rfl) ?_)
    | ((with_reducible refine PCall.dz (checkLog_c _ _ _ (by omega)) (by with_unfolding_all rfl) (by with_unfolding_all rfl) ?_); rotate_right; rintro zh1 zq1; (try simp -dsimp [go_sem] at zq1); obtain ⟨rfl⟩ := zq1)
    | ((with_reducible refine PCall.dz (term_c _ _ _ _ ⟨b1, b2⟩ b3 hp) (by with_unfolding_all rfl) (by with_unfolding_all rfl) ?_); rotate_right; rintro zh1 zq1; (try simp -dsimp [go_sem] at zq1); obtain ⟨rfl⟩ := zq1)
    | (with_reducible refine CallZ.z ?_)
    | (simp -dsimp [go_sem, h, p1, p2]))
theorem termRange_c (base bt : Int) (x : List Item) (place : Int) (h : checkLog base bt x = 0) (hp : place < 0 ∨ 1048576 < place) : PCall Try.prog G 29 [.agg (logC base bt x), iV place] (.tup [iV 0, iV 2]) := by
  obtain ⟨b1, b2, b3, b4, b5⟩ := last_c' base bt x h
  refine pcall mixed Try.func29 ok_ledger_Term rs_ledger_Term (by simp [Try.f29]) ?_
  unfold ac_ledger_Term
  repeat' (first
    | (with_reducible refine Cnd.intro (fun h => ?_) (fun h => ?_))
    | (with_reducible refine And.intro ?_ ?_)
    | (with_reducible refine Wk.refl ?_)
    | (with_reducible exact Weak.refl _ _)
    | (with_reducible refine weak_auto ?_)
    | (with_reducible apply awp_join)
    | (with_reducible refine CallZ.l (PCall.kf (checkLog_c _ _ _ (by omega)) ?_ ?_))
    | (with_reducible refine PCall.kf (checkLog_c _ _ _ (by omega)) ?_ ?_)
    | (with_reducible refine PCall.df (checkLog_c _ _ _ (by omega)) ?_ ?_)
    | (with_reducible refine CallZ.l (PCall.kn (checkLog_c _ _ _ (by omega)) (by with_unfolding_all rfl) (by with_unfolding_all rfl) ?_))
    | (with_reducible refine PCall.kn (checkLog_c _ _ _ (by omega)) (by with_unfolding_all rfl) (by with_unfolding_all rfl) ?_)
    | (with_reducible refine PCall.dn (checkLog_c _ _ _ (by omega)) (by with_unfolding_all rfl) (by with_unfolding_all rfl) ?_)
    | ((with_reducible refine PCall.dz (checkLog_c _ _ _ (by omega)) (by with_unfolding_all rfl) (by with_unfolding_all rfl) ?_); rotate_right; rintro zh1 zq1; (try simp -dsimp [go_sem] at zq1); obtain ⟨rfl⟩ := zq1)
    | (with_reducible refine CallZ.z ?_)
    | (simp -dsimp [go_sem, h]))
  all_goals simp_all
  all_goals omega
end Go.Proofs.Ytniihihcklpdgaa
