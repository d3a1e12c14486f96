/- Logs that are matched: what ledger.Match answers. -/
import Derived.Test.YtniihihcklpdgaaS
set_option linter.unusedVariables false
set_option linter.unusedSimpArgs false
set_option maxRecDepth 100000
set_option maxHeartbeats 8000000
namespace Go.Proofs.Ytniihihcklpdgaa
open Go Go.RowKit Go.Proofs.AE
variable {G : Nat → AV}
/-- From which of the items on something is new. -/
def firstNew (x : List Item) : Nat → List Item → Nat → Option Nat
  | _, [], _ => none
  | at', y :: l, i => if (match x[at']? with | some z => z.term == y.term | none => false) then firstNew x (at' + 1) l (i + 1) else some i
abbrev matchV (base bt : Int) (x : List Item) (fits : Bool) (fresh err : Int) : AV := .tup [.agg (logC base bt x), bV fits, iV fresh, iV err]
/-- Behind a place that is there. -/
def matchGo (base bt : Int) (x : List Item) (place : Int) (at' : Nat) (items : List Item) : AV :=
  match firstNew x at' items 0 with
  | none => matchV base bt x true 0 0
  | some i => if checkLog base bt (x.take (at' + i) ++ items.drop i) = 0 then matchV base bt (x.take (at' + i) ++ items.drop i) true (place + i + 1) 0 else matchV 0 0 [] false 0 6
theorem checkLog_or (base bt : Int) (x : List Item) : checkLog base bt x = 0 ∨ checkLog base bt x = 13 := by
  unfold checkLog
  split
  · split <;> simp
  · simp
theorem checkLogR_c (base bt : Int) (rows : List (List V)) (x : List Item) (hr : rows = x.map Item.row) (hx : (x.length : Int) ≤ 9223372036854775807) :
    PCall Try.prog G 27 [.agg [iC base, iC bt, .v (.sl rows)]] (iV (checkLog base bt x)) := by subst hr; exact checkLog_c base bt x hx
theorem matchOrder_c (base bt : Int) (x : List Item) (place of' : Int) (items : List Item) (h : checkLog base bt x = 0) (hi : (items.length : Int) ≤ 9223372036854775807) (h2 : checkLog place of' items = 13) :
    PCall Try.prog G 25 [.agg (logC base bt x), iV place, iV of', rowsV items] (matchV 0 0 [] false 0 10) := by
  obtain ⟨b1, b2, b3, b4, b5⟩ := last_c' base bt x h
  refine pcall mixed Try.func25 ok_ledger_Match rs_ledger_Match (by simp [Try.f25]) ?_
  unfold ac_ledger_Match
  repeat' (first
    | (with_reducible refine Cnd.intro (fun h => ?_) (fun h => ?_))
    | (with_reducible refine And.intro ?_ ?_)
    | (with_reducible refine Wk.refl ?_)
    | (with_reducible exact Weak.refl _ _)
    | (with_reducible refine weak_auto ?_)
    | (with_reducible apply awp_join)
    | (with_reducible refine CallZ.l (PCall.kf (checkLog_c _ _ _ (by omega)) ?_ ?_))
    | (with_reducible refine PCall.kf (checkLog_c _ _ _ (by omega)) ?_ ?_)
    | (with_reducible refine PCall.df (checkLog_c _ _ _ (by omega)) ?_ ?_)
    | (with_reducible refine CallZ.l (PCall.kf (checkLog_c _ _ _ hi) ?_ ?_))
    | (with_reducible refine PCall.kf (checkLog_c _ _ _ hi) ?_ ?_)
    | (with_reducible refine PCall.df (checkLog_c _ _ _ hi) ?_ ?_)
    | (with_reducible refine CallZ.l (PCall.kn (checkLog_c _ _ _ (by omega)) (by with_unfolding_all rfl) (by with_unfolding_all rfl) ?_))
    | (with_reducible refine PCall.kn (checkLog_c _ _ _ (by omega)) (by with_unfolding_all rfl) (by with_unfolding_all rfl) ?_)
    | (with_reducible refine PCall.dn (checkLog_c _ _ _ (by omega)) (by with_unfolding_all rfl) (by with_unfolding_all rfl) ?_)
    | (with_reducible refine CallZ.l (PCall.kn (checkLog_c _ _ _ hi) (by with_unfolding_all rfl) (by with_unfolding_all rfl) ?_))
    | (with_reducible refine PCall.kn (checkLog_c _ _ _ hi) (by with_unfolding_all rfl) (by with_unfolding_all rfl) ?_)
    | (with_reducible refine PCall.dn (checkLog_c _ _ _ hi) (by with_unfolding_all rfl) (by with_unfolding_all rfl) ?_)
    | ((with_reducible refine PCall.dz (checkLog_c _ _ _ (by omega)) (by with_unfolding_all rfl) (by with_unfolding_all rfl) ?_); rotate_right; rintro zh1 zq1; (try simp -dsimp [go_sem] at zq1); obtain ⟨rfl⟩ := zq1)
    | ((with_reducible refine PCall.dz (checkLog_c _ _ _ hi) (by with_unfolding_all rfl) (by with_unfolding_all rfl) ?_); rotate_right; rintro zh1 zq1; (try simp -dsimp [go_sem] at zq1); obtain ⟨rfl⟩ := zq1)
    | (with_reducible refine CallZ.z ?_)
    | (simp -dsimp [go_sem, h, h2]))
theorem matchNot_c (base bt : Int) (x : List Item) (place of' : Int) (items : List Item) (h : checkLog base bt x = 0) (h2 : checkLog place of' items = 0) (hp : base ≤ place) (ht : termErr base x.length place ≠ 0 ∨ termAt base bt x place ≠ of') :
    PCall Try.prog G 25 [.agg (logC base bt x), iV place, iV of', rowsV items] (matchV base bt x false 0 0) := by
  obtain ⟨b1, b2, b3, b4, b5⟩ := last_c' base bt x h
  obtain ⟨d1, d2, d3, d4, d5⟩ := last_c' place of' items h2
  have p1 : ¬ place < base := by omega
  have hcl : UL 10 (x.map Item.row) ∧ (x.map Item.row).length ≤ 1000000 := ⟨ul_rows x, by simp; omega⟩
  refine pcall mixed Try.func25 ok_ledger_Match rs_ledger_Match (by simp [Try.f25]) ?_
  unfold ac_ledger_Match
  repeat' (first
    | (with_reducible refine Cnd.intro (fun h => ?_) (fun h => ?_))
    | (with_reducible refine And.intro ?_ ?_)
    | (with_reducible refine Wk.refl ?_)
    | (with_reducible exact Weak.refl _ _)
    | (with_reducible refine weak_auto ?_)
    | (with_reducible apply awp_join)
    | (with_reducible refine CallZ.l (PCall.kf (checkLog_c _ _ _ (by omega)) ?_ ?_))
    | (with_reducible refine PCall.kf (checkLog_c _ _ _ (by omega)) ?_ ?_)
    | (with_reducible refine PCall.df (checkLog_c _ _ _ (by omega)) ?_ ?_)
    | (with_reducible refine CallZ.l (PCall.kf (term_c _ _ _ _ ⟨b1, b2⟩ b3 ⟨d1, d2⟩) ?_ ?_))
    | (with_reducible refine PCall.kf (term_c _ _ _ _ ⟨b1, b2⟩ b3 ⟨d1, d2⟩) ?_ ?_)
    | (with_reducible refine PCall.df (term_c _ _ _ _ ⟨b1, b2⟩ b3 ⟨d1, d2⟩) ?_ ?_)
    | (with_reducible refine CallZ.l (PCall.kf (cloneItems_c _ hcl.1 hcl.2) ?_ ?_))
    | (with_reducible refine PCall.kf (cloneItems_c _ hcl.1 hcl.2) ?_ ?_)
    | (with_reducible refine PCall.df (cloneItems_c _ hcl.1 hcl.2) ?_ ?_)
    | (with_reducible refine CallZ.l (PCall.kn (checkLog_c _ _ _ (by omega)) (by with_unfolding_all rfl) (by with_unfolding_all rfl) ?_))
    | (with_reducible refine PCall.kn (checkLog_c _ _ _ (by omega)) (by with_unfolding_all rfl) (by with_unfolding_all rfl) ?_)
    | (with_reducible refine PCall.dn (checkLog_c _ _ _ (by omega)) (by with_unfolding_all rfl) (by with_unfolding_all rfl) ?_)
    | (with_reducible refine CallZ.l (PCall.kn (term_c _ _ _ _ ⟨b1, b2⟩ b3 ⟨d1, d2⟩) (by with_unfolding_all rfl) (by with_unfolding_all rfl) ?_))
    | (with_reducible refine PCall.kn (term_c _ _ _ _ ⟨b1, b2⟩ b3 ⟨d1, d2⟩) (by with_unfolding_all rfl) (by with_unfolding_all rfl) ?_)
    | (with_reducible refine PCall.dn (term_c _ _ _ _ ⟨b1, b2⟩ b3 ⟨d1, d2⟩) (by with_unfolding_all rfl) (by with_unfolding_all rfl) ?_)
    | (with_reducible refine CallZ.l (PCall.kn (cloneItems_c _ hcl.1 hcl.2) (by with_unfolding_all rfl) (by with_unfolding_all rfl) ?_))
    | (with_reducible refine PCall.kn (cloneItems_c _ hcl.1 hcl.2) (by with_unfolding_all rfl) (by with_unfolding_all rfl) ?_)
    | (with_reducible refine PCall.dn (cloneItems_c _ hcl.1 hcl.2) (by with_unfolding_all rfl) (by with_unfolding_all rfl) ?_)
    | ((with_reducible refine PCall.dz (checkLog_c _ _ _ (by omega)) (by with_unfolding_all rfl) (by with_unfolding_all rfl) ?_); rotate_right; rintro zh1 zq1; (try simp -dsimp [go_sem] at zq1); obtain ⟨rfl⟩ := zq1)
    | ((with_reducible refine PCall.dz (term_c _ _ _ _ ⟨b1, b2⟩ b3 ⟨d1, d2⟩) (by with_unfolding_all rfl) (by with_unfolding_all rfl) ?_); rotate_right; rintro zh1 zq1; (try simp -dsimp [go_sem] at zq1); obtain ⟨rfl⟩ := zq1)
    | ((with_reducible refine PCall.dz (cloneItems_c _ hcl.1 hcl.2) (by with_unfolding_all rfl) (by with_unfolding_all rfl) ?_); rotate_right; rintro zh1 zq1; (try simp -dsimp [go_sem] at zq1); obtain ⟨rfl⟩ := zq1)
    | (with_reducible refine CallZ.z ?_)
    | (simp -dsimp [go_sem, h, h2, p1]))
  all_goals simp_all
theorem matchBelow_c (base bt : Int) (x : List Item) (place of' : Int) (items : List Item) (h : checkLog base bt x = 0) (h2 : checkLog place of' items = 0) (hp : place + items.length < base) :
    PCall Try.prog G 25 [.agg (logC base bt x), iV place, iV of', rowsV items] (matchV base bt x true 0 0) := by
  obtain ⟨b1, b2, b3, b4, b5⟩ := last_c' base bt x h
  obtain ⟨d1, d2, d3, d4, d5⟩ := last_c' place of' items h2
  have p1 : place < base := by omega
  have e1 : IntKind.i64.wrap (base - place) = base - place := IntWalk.i64_in _ (by omega)
  have p2 : (items.length : Int) < base - place := by omega
  have e2 : IntKind.i64.wrap (place + items.length) = place + items.length := IntWalk.i64_in _ (by omega)
  have hcl : UL 10 (x.map Item.row) ∧ (x.map Item.row).length ≤ 1000000 := ⟨ul_rows x, by simp; omega⟩
  have hul := ul_rows items
  refine pcall mixed Try.func25 ok_ledger_Match rs_ledger_Match (by simp [Try.f25]) ?_
  unfold ac_ledger_Match
  repeat' (first
    | (with_reducible refine Cnd.intro (fun h => ?_) (fun h => ?_))
    | (with_reducible refine And.intro ?_ ?_)
    | (with_reducible refine Wk.refl ?_)
    | (with_reducible exact Weak.refl _ _)
    | (with_reducible refine weak_auto ?_)
    | (with_reducible apply awp_join)
    | (with_reducible refine CallZ.l (PCall.kf (checkLog_c _ _ _ (by omega)) ?_ ?_))
    | (with_reducible refine PCall.kf (checkLog_c _ _ _ (by omega)) ?_ ?_)
    | (with_reducible refine PCall.df (checkLog_c _ _ _ (by omega)) ?_ ?_)
    | (with_reducible refine CallZ.l (PCall.kf (cloneItems_c _ hcl.1 hcl.2) ?_ ?_))
    | (with_reducible refine PCall.kf (cloneItems_c _ hcl.1 hcl.2) ?_ ?_)
    | (with_reducible refine PCall.df (cloneItems_c _ hcl.1 hcl.2) ?_ ?_)
    | (with_reducible refine CallZ.l (PCall.kn (checkLog_c _ _ _ (by omega)) (by with_unfolding_all rfl) (by with_unfolding_all rfl) ?_))
    | (with_reducible refine PCall.kn (checkLog_c _ _ _ (by omega)) (by with_unfolding_all rfl) (by with_unfolding_all rfl) ?_)
    | (with_reducible refine PCall.dn (checkLog_c _ _ _ (by omega)) (by with_unfolding_all rfl) (by with_unfolding_all rfl) ?_)
    | (with_reducible refine CallZ.l (PCall.kn (cloneItems_c _ hcl.1 hcl.2) (by with_unfolding_all rfl) (by with_unfolding_all rfl) ?_))
    | (with_reducible refine PCall.kn (cloneItems_c _ hcl.1 hcl.2) (by with_unfolding_all rfl) (by with_unfolding_all rfl) ?_)
    | (with_reducible refine PCall.dn (cloneItems_c _ hcl.1 hcl.2) (by with_unfolding_all rfl) (by with_unfolding_all rfl) ?_)
    | ((with_reducible refine PCall.dz (checkLog_c _ _ _ (by omega)) (by with_unfolding_all rfl) (by with_unfolding_all rfl) ?_); rotate_right; rintro zh1 zq1; (try simp -dsimp [go_sem] at zq1); obtain ⟨rfl⟩ := zq1)
    | ((with_reducible refine PCall.dz (cloneItems_c _ hcl.1 hcl.2) (by with_unfolding_all rfl) (by with_unfolding_all rfl) ?_); rotate_right; rintro zh1 zq1; (try simp -dsimp [go_sem] at zq1); obtain ⟨rfl⟩ := zq1)
    | (with_reducible refine CallZ.z ?_)
    | (simp -dsimp [go_sem, h, h2, p1, e1, e2, p2, hp, hul]))
theorem firstNew_none {x : List Item} {at' : Nat} {its : List Item} {i : Nat} (h : its.length ≤ i) (ha : firstNew x at' its 0 = firstNew x (at' + i) (its.drop i) i) : firstNew x at' its 0 = none := by
  rw [ha, List.drop_eq_nil_of_le h]; rfl
theorem matchGo_c (base bt : Int) (x : List Item) (place of' : Int) (items its : List Item) (pl : Int) (at' : Nat) (h : checkLog base bt x = 0) (h2 : checkLog place of' items = 0)
    (hc : (place < base ∧ pl = base ∧ at' = 0 ∧ its = items.drop (base - place).toNat ∧ base ≤ place + items.length) ∨ (base ≤ place ∧ pl = place ∧ at' = (place - base).toNat ∧ its = items ∧ termErr base x.length place = 0 ∧ termAt base bt x place = of')) :
    PCall Try.prog G 25 [.agg (logC base bt x), iV place, iV of', rowsV items] (matchGo base bt x pl at' its) := by
  obtain ⟨b1, b2, b3, b4, b5⟩ := last_c' base bt x h
  obtain ⟨d1, d2, d3, d4, d5⟩ := last_c' place of' items h2
  have b6 := last_room base bt x h
  have hcl : UL 10 (x.map Item.row) ∧ (x.map Item.row).length ≤ 1000000 := ⟨ul_rows x, by simp; omega⟩
  have hul := ul_rows items
  have hil : its.length ≤ 200 := by
    rcases hc with ⟨_, _, _, rfl, _⟩ | ⟨_, _, _, rfl, _⟩
    · simp; omega
    · exact d3
  have hat : at' ≤ x.length := by
    rcases hc with ⟨_, _, rfl, _⟩ | ⟨_, _, rfl, _, ht, _⟩
    · omega
    · have := termErr_range ht; omega
  have hpl : 0 ≤ pl ∧ pl ≤ 1048576 := by rcases hc with ⟨_, rfl, _⟩ | ⟨_, rfl, _⟩ <;> omega
  refine pcall mixed Try.func25 ok_ledger_Match rs_ledger_Match (by simp [Try.f25]) ?_
  unfold ac_ledger_Match
  rcases hc with ⟨p1, q1, q2, q3, p2⟩ | ⟨p1, q1, q2, q3, p2, p3⟩
  · have e1 : IntKind.i64.wrap (base - place) = base - place := IntWalk.i64_in _ (by omega)
    have e2 : IntKind.i64.wrap (place + (base - place)) = base := by rw [IntWalk.i64_in _ (by omega)]; omega
    have p3 : ¬ (items.length : Int) < base - place := by omega
    have e3 : IntKind.i64.wrap 0 = 0 := rfl
    have e5 : (items.map Item.row).take items.length = items.map Item.row := List.take_of_length_le (by simp)
    have e6 : ((items.length - (base - place).toNat : Nat) : Int) = its.length := by rw [q3]; simp
    have e4 : (items.map Item.row).drop (base - place).toNat = its.map Item.row := by rw [q3, List.map_drop]
    repeat' (first
    | (with_reducible refine Cnd.intro (fun h => ?_) (fun h => ?_))
    | (with_reducible refine And.intro ?_ ?_)
    | (with_reducible refine Wk.refl ?_)
    | (with_reducible exact Weak.refl _ _)
    | (with_reducible refine weak_auto ?_)
    | (with_reducible apply awp_join)
    | (with_reducible refine CallZ.l (PCall.kf (checkLog_c _ _ _ (by omega)) ?_ ?_))
    | (with_reducible refine PCall.kf (checkLog_c _ _ _ (by omega)) ?_ ?_)
    | (with_reducible refine PCall.df (checkLog_c _ _ _ (by omega)) ?_ ?_)
    | (with_reducible refine CallZ.l (PCall.kf (cloneItems_c _ hcl.1 hcl.2) ?_ ?_))
    | (with_reducible refine PCall.kf (cloneItems_c _ hcl.1 hcl.2) ?_ ?_)
    | (with_reducible refine PCall.df (cloneItems_c _ hcl.1 hcl.2) ?_ ?_)
    | (with_reducible refine CallZ.l (PCall.kn (checkLog_c _ _ _ (by omega)) (by with_unfolding_all rfl) (by with_unfolding_all rfl) ?_))
    | (with_reducible refine PCall.kn (checkLog_c _ _ _ (by omega)) (by with_unfolding_all rfl) (by with_unfolding_all rfl) ?_)
    | (with_reducible refine PCall.dn (checkLog_c _ _ _ (by omega)) (by with_unfolding_all rfl) (by with_unfolding_all rfl) ?_)
    | (with_reducible refine CallZ.l (PCall.kn (cloneItems_c _ hcl.1 hcl.2) (by with_unfolding_all rfl) (by with_unfolding_all rfl) ?_))
    | (with_reducible refine PCall.kn (cloneItems_c _ hcl.1 hcl.2) (by with_unfolding_all rfl) (by with_unfolding_all rfl) ?_)
    | (with_reducible refine PCall.dn (cloneItems_c _ hcl.1 hcl.2) (by with_unfolding_all rfl) (by with_unfolding_all rfl) ?_)
    | ((with_reducible refine PCall.dz (checkLog_c _ _ _ (by omega)) (by with_unfolding_all rfl) (by with_unfolding_all rfl) ?_); rotate_right; rintro zh1 zq1; (try simp -dsimp [go_sem] at zq1); obtain ⟨rfl⟩ := zq1)
    | ((with_reducible refine PCall.dz (cloneItems_c _ hcl.1 hcl.2) (by with_unfolding_all rfl) (by with_unfolding_all rfl) ?_); rotate_right; rintro zh1 zq1; (try simp -dsimp [go_sem] at zq1); obtain ⟨rfl⟩ := zq1)
    | (with_reducible refine CallZ.z ?_)
    | (simp -dsimp [go_sem, h, h2, p1, e1, e2, e3, p3, hul, e4, e5, e6]))
    all_goals first | omega | skip
    refine awp_loop (fun i : Nat => ⟨[(1, iV pl), (3, rowsV its), (8, .one (.ptr 0 0)), (16, iV at'), (80, rowsV its), (81, iV its.length), (82, iV i)], G, [some (.box 41 (logC base bt x))]⟩)
      (fun i => i ≤ its.length ∧ at' + i ≤ x.length ∧ firstNew x at' its 0 = firstNew x (at' + i) (its.drop i) i) (fun i => its.length - i) 0 (weak_auto ?_) ⟨Nat.zero_le _, hat, rfl⟩ ?_
    · simp -dsimp [go_sem]
      simp_all
      try omega
    · rintro i ⟨hi, hai, hx⟩
      have e10 : IntKind.i64.wrap ((at' : Int) + i) = at' + i := IntWalk.i64_in _ (by omega)
      have e11 : IntKind.i64.wrap ((i : Int) + 1) = i + 1 := IntWalk.i64_in _ (by omega)
      have e12 : ((at' : Int) + i).toNat = at' + i := by omega
      have e13 : IntKind.i64.wrap (pl + (i : Int)) = pl + i := IntWalk.i64_in _ (by omega)
      have e14 : IntKind.i64.wrap (pl + (i : Int) + 1) = pl + i + 1 := IntWalk.i64_in _ (by omega)
      simp -dsimp [go_sem]
      refine Cnd.intro (fun hh => ?_) (fun hh => ?_)
      · have hlt : i < its.length := by simpa using hh
        have hgi : (its.map Item.row)[i]? = some its[i].row := by simp [hlt]
        have hdrop : its.drop i = its[i] :: its.drop (i + 1) := List.drop_eq_getElem_cons hlt
        have htk : (its.map Item.row).take its.length = its.map Item.row := List.take_of_length_le (by simp)
        have hul1 := ul_rows its
        have hul2 := ul_rows x
        have hul3 := @ul_take 10 (at' + i) _ (ul_rows x)
        have hul4 := @ul_drop 10 i _ (ul_rows its)
        rw [hdrop] at hx
        simp only [firstNew] at hx
        by_cases hax : at' + i < x.length
        · have hga : (x.map Item.row)[at' + i]? = some x[at' + i].row := by simp [hax]
          have hga' : x[at' + i]? = some x[at' + i] := List.getElem?_eq_getElem hax
          have hax' : (at' : Int) + i < x.length := by omega
          rw [hga'] at hx
          simp only at hx
          repeat' (first
    | (with_reducible refine Cnd.intro (fun h => ?_) (fun h => ?_))
    | (with_reducible refine And.intro ?_ ?_)
    | (with_reducible refine Wk.refl ?_)
    | (with_reducible exact Weak.refl _ _)
    | (with_reducible refine weak_auto ?_)
    | (with_reducible apply awp_join)
    | (with_reducible refine CallZ.l (PCall.kf (checkLogR_c _ _ _ (x.take (at' + i) ++ its.drop i) (by simp [List.map_take, List.map_drop]) (by simp; omega)) ?_ ?_))
    | (with_reducible refine PCall.kf (checkLogR_c _ _ _ (x.take (at' + i) ++ its.drop i) (by simp [List.map_take, List.map_drop]) (by simp; omega)) ?_ ?_)
    | (with_reducible refine PCall.df (checkLogR_c _ _ _ (x.take (at' + i) ++ its.drop i) (by simp [List.map_take, List.map_drop]) (by simp; omega)) ?_ ?_)
    | (with_reducible refine CallZ.l (PCall.kn (checkLogR_c _ _ _ (x.take (at' + i) ++ its.drop i) (by simp [List.map_take, List.map_drop]) (by simp; omega)) (by with_unfolding_all rfl) (by with_unfolding_all rfl) ?_))
    | (with_reducible refine PCall.kn (checkLogR_c _ _ _ (x.take (at' + i) ++ its.drop i) (by simp [List.map_take, List.map_drop]) (by simp; omega)) (by with_unfolding_all rfl) (by with_unfolding_all rfl) ?_)
    | (with_reducible refine PCall.dn (checkLogR_c _ _ _ (x.take (at' + i) ++ its.drop i) (by simp [List.map_take, List.map_drop]) (by simp; omega)) (by with_unfolding_all rfl) (by with_unfolding_all rfl) ?_)
    | ((with_reducible refine PCall.dz (checkLogR_c _ _ _ (x.take (at' + i) ++ its.drop i) (by simp [List.map_take, List.map_drop]) (by simp; omega)) (by with_unfolding_all rfl) (by with_unfolding_all rfl) ?_); rotate_right; rintro zh1 zq1; (try simp -dsimp [go_sem] at zq1); obtain ⟨rfl⟩ := zq1)
    | (with_reducible refine CallZ.z ?_)
    | (simp -dsimp [go_sem, Item.row, hgi, hga, hax', e10, e11, e12, e13, e14, hul1, hul2, hul3, hul4, htk]))
          all_goals first
            | omega
            | (with_reducible refine Again.auto (i + 1) ?_ ?_ ?_)
            | skip
          · simp -dsimp [go_sem]
          · rw [if_pos h] at hx
            exact ⟨hlt, by omega, hx⟩
          · show its.length - (i + 1) < its.length - i
            omega
          all_goals
            have hx' : firstNew x at' its 0 = some i := by first | exact hx | (rename_i hq; rw [if_neg (by rw [hq]; decide)] at hx; exact hx)
            rcases checkLog_or base bt (x.take (at' + i) ++ its.drop i) with hc | hc <;> simp [hc] at h <;> simp -dsimp [go_sem, matchGo, hx', hc, List.map_take, List.map_drop]
        · have hga' : x[at' + i]? = none := List.getElem?_eq_none (by omega)
          have hax' : ¬ (at' : Int) + i < x.length := by omega
          rw [hga'] at hx
          simp only [Bool.false_eq_true, if_false] at hx
          repeat' (first
    | (with_reducible refine Cnd.intro (fun h => ?_) (fun h => ?_))
    | (with_reducible refine And.intro ?_ ?_)
    | (with_reducible refine Wk.refl ?_)
    | (with_reducible exact Weak.refl _ _)
    | (with_reducible refine weak_auto ?_)
    | (with_reducible apply awp_join)
    | (with_reducible refine CallZ.l (PCall.kf (checkLogR_c _ _ _ (x.take (at' + i) ++ its.drop i) (by simp [List.map_take, List.map_drop]) (by simp; omega)) ?_ ?_))
    | (with_reducible refine PCall.kf (checkLogR_c _ _ _ (x.take (at' + i) ++ its.drop i) (by simp [List.map_take, List.map_drop]) (by simp; omega)) ?_ ?_)
    | (with_reducible refine PCall.df (checkLogR_c _ _ _ (x.take (at' + i) ++ its.drop i) (by simp [List.map_take, List.map_drop]) (by simp; omega)) ?_ ?_)
    | (with_reducible refine CallZ.l (PCall.kn (checkLogR_c _ _ _ (x.take (at' + i) ++ its.drop i) (by simp [List.map_take, List.map_drop]) (by simp; omega)) (by with_unfolding_all rfl) (by with_unfolding_all rfl) ?_))
    | (with_reducible refine PCall.kn (checkLogR_c _ _ _ (x.take (at' + i) ++ its.drop i) (by simp [List.map_take, List.map_drop]) (by simp; omega)) (by with_unfolding_all rfl) (by with_unfolding_all rfl) ?_)
    | (with_reducible refine PCall.dn (checkLogR_c _ _ _ (x.take (at' + i) ++ its.drop i) (by simp [List.map_take, List.map_drop]) (by simp; omega)) (by with_unfolding_all rfl) (by with_unfolding_all rfl) ?_)
    | ((with_reducible refine PCall.dz (checkLogR_c _ _ _ (x.take (at' + i) ++ its.drop i) (by simp [List.map_take, List.map_drop]) (by simp; omega)) (by with_unfolding_all rfl) (by with_unfolding_all rfl) ?_); rotate_right; rintro zh1 zq1; (try simp -dsimp [go_sem] at zq1); obtain ⟨rfl⟩ := zq1)
    | (with_reducible refine CallZ.z ?_)
    | (simp -dsimp [go_sem, Item.row, hgi, hax', e10, e11, e12, e13, e14, hul1, hul2, hul3, hul4, htk]))
          all_goals first
            | omega
            | skip
          all_goals
            have hx' : firstNew x at' its 0 = some i := by first | exact hx | (rename_i hq; rw [if_neg (by rw [hq]; decide)] at hx; exact hx)
            rcases checkLog_or base bt (x.take (at' + i) ++ its.drop i) with hc | hc <;> simp [hc] at h <;> simp -dsimp [go_sem, matchGo, hx', hc, List.map_take, List.map_drop]
      · have hge : ¬ i < its.length := by simpa using hh
        have hn := firstNew_none (by omega) hx
        simp -dsimp [go_sem, matchGo, hn]
  · have p1' : ¬ place < base := by omega
    have e1 : IntKind.i64.wrap (place - base) = place - base := IntWalk.i64_in _ (by omega)
    repeat' (first
    | (with_reducible refine Cnd.intro (fun h => ?_) (fun h => ?_))
    | (with_reducible refine And.intro ?_ ?_)
    | (with_reducible refine Wk.refl ?_)
    | (with_reducible exact Weak.refl _ _)
    | (with_reducible refine weak_auto ?_)
    | (with_reducible apply awp_join)
    | (with_reducible refine CallZ.l (PCall.kf (checkLog_c _ _ _ (by omega)) ?_ ?_))
    | (with_reducible refine PCall.kf (checkLog_c _ _ _ (by omega)) ?_ ?_)
    | (with_reducible refine PCall.df (checkLog_c _ _ _ (by omega)) ?_ ?_)
    | (with_reducible refine CallZ.l (PCall.kf (term_c _ _ _ _ ⟨b1, b2⟩ b3 ⟨d1, d2⟩) ?_ ?_))
    | (with_reducible refine PCall.kf (term_c _ _ _ _ ⟨b1, b2⟩ b3 ⟨d1, d2⟩) ?_ ?_)
    | (with_reducible refine PCall.df (term_c _ _ _ _ ⟨b1, b2⟩ b3 ⟨d1, d2⟩) ?_ ?_)
    | (with_reducible refine CallZ.l (PCall.kf (cloneItems_c _ hcl.1 hcl.2) ?_ ?_))
    | (with_reducible refine PCall.kf (cloneItems_c _ hcl.1 hcl.2) ?_ ?_)
    | (with_reducible refine PCall.df (cloneItems_c _ hcl.1 hcl.2) ?_ ?_)
    | (with_reducible refine CallZ.l (PCall.kn (checkLog_c _ _ _ (by omega)) (by with_unfolding_all rfl) (by with_unfolding_all rfl) ?_))
    | (with_reducible refine PCall.kn (checkLog_c _ _ _ (by omega)) (by with_unfolding_all rfl) (by with_unfolding_all rfl) ?_)
    | (with_reducible refine PCall.dn (checkLog_c _ _ _ (by omega)) (by with_unfolding_all rfl) (by with_unfolding_all rfl) ?_)
    | (with_reducible refine CallZ.l (PCall.kn (term_c _ _ _ _ ⟨b1, b2⟩ b3 ⟨d1, d2⟩) (by with_unfolding_all rfl) (by with_unfolding_all rfl) ?_))
    | (with_reducible refine PCall.kn (term_c _ _ _ _ ⟨b1, b2⟩ b3 ⟨d1, d2⟩) (by with_unfolding_all rfl) (by with_unfolding_all rfl) ?_)
    | (with_reducible refine PCall.dn (term_c _ _ _ _ ⟨b1, b2⟩ b3 ⟨d1, d2⟩) (by with_unfolding_all rfl) (by with_unfolding_all rfl) ?_)
    | (with_reducible refine CallZ.l (PCall.kn (cloneItems_c _ hcl.1 hcl.2) (by with_unfolding_all rfl) (by with_unfolding_all rfl) ?_))
    | (with_reducible refine PCall.kn (cloneItems_c _ hcl.1 hcl.2) (by with_unfolding_all rfl) (by with_unfolding_all rfl) ?_)
    | (with_reducible refine PCall.dn (cloneItems_c _ hcl.1 hcl.2) (by with_unfolding_all rfl) (by with_unfolding_all rfl) ?_)
    | ((with_reducible refine PCall.dz (checkLog_c _ _ _ (by omega)) (by with_unfolding_all rfl) (by with_unfolding_all rfl) ?_); rotate_right; rintro zh1 zq1; (try simp -dsimp [go_sem] at zq1); obtain ⟨rfl⟩ := zq1)
    | ((with_reducible refine PCall.dz (term_c _ _ _ _ ⟨b1, b2⟩ b3 ⟨d1, d2⟩) (by with_unfolding_all rfl) (by with_unfolding_all rfl) ?_); rotate_right; rintro zh1 zq1; (try simp -dsimp [go_sem] at zq1); obtain ⟨rfl⟩ := zq1)
    | ((with_reducible refine PCall.dz (cloneItems_c _ hcl.1 hcl.2) (by with_unfolding_all rfl) (by with_unfolding_all rfl) ?_); rotate_right; rintro zh1 zq1; (try simp -dsimp [go_sem] at zq1); obtain ⟨rfl⟩ := zq1)
    | (with_reducible refine CallZ.z ?_)
    | (simp -dsimp [go_sem, h, h2, p1', e1, p2, p3, hul]))
    refine awp_loop (fun i : Nat => ⟨[(1, iV pl), (3, rowsV its), (8, .one (.ptr 0 0)), (16, iV at'), (80, rowsV its), (81, iV its.length), (82, iV i)], G, [some (.box 41 (logC base bt x))]⟩)
      (fun i => i ≤ its.length ∧ at' + i ≤ x.length ∧ firstNew x at' its 0 = firstNew x (at' + i) (its.drop i) i) (fun i => its.length - i) 0 (weak_auto ?_) ⟨Nat.zero_le _, hat, rfl⟩ ?_
    · simp -dsimp [go_sem]
      simp_all
      try omega
    · rintro i ⟨hi, hai, hx⟩
      have e10 : IntKind.i64.wrap ((at' : Int) + i) = at' + i := IntWalk.i64_in _ (by omega)
      have e11 : IntKind.i64.wrap ((i : Int) + 1) = i + 1 := IntWalk.i64_in _ (by omega)
      have e12 : ((at' : Int) + i).toNat = at' + i := by omega
      have e13 : IntKind.i64.wrap (pl + (i : Int)) = pl + i := IntWalk.i64_in _ (by omega)
      have e14 : IntKind.i64.wrap (pl + (i : Int) + 1) = pl + i + 1 := IntWalk.i64_in _ (by omega)
      simp -dsimp [go_sem]
      refine Cnd.intro (fun hh => ?_) (fun hh => ?_)
      · have hlt : i < its.length := by simpa using hh
        have hgi : (its.map Item.row)[i]? = some its[i].row := by simp [hlt]
        have hdrop : its.drop i = its[i] :: its.drop (i + 1) := List.drop_eq_getElem_cons hlt
        have htk : (its.map Item.row).take its.length = its.map Item.row := List.take_of_length_le (by simp)
        have hul1 := ul_rows its
        have hul2 := ul_rows x
        have hul3 := @ul_take 10 (at' + i) _ (ul_rows x)
        have hul4 := @ul_drop 10 i _ (ul_rows its)
        rw [hdrop] at hx
        simp only [firstNew] at hx
        by_cases hax : at' + i < x.length
        · have hga : (x.map Item.row)[at' + i]? = some x[at' + i].row := by simp [hax]
          have hga' : x[at' + i]? = some x[at' + i] := List.getElem?_eq_getElem hax
          have hax' : (at' : Int) + i < x.length := by omega
          rw [hga'] at hx
          simp only at hx
          repeat' (first
    | (with_reducible refine Cnd.intro (fun h => ?_) (fun h => ?_))
    | (with_reducible refine And.intro ?_ ?_)
    | (with_reducible refine Wk.refl ?_)
    | (with_reducible exact Weak.refl _ _)
    | (with_reducible refine weak_auto ?_)
    | (with_reducible apply awp_join)
    | (with_reducible refine CallZ.l (PCall.kf (checkLogR_c _ _ _ (x.take (at' + i) ++ its.drop i) (by simp [List.map_take, List.map_drop]) (by simp; omega)) ?_ ?_))
    | (with_reducible refine PCall.kf (checkLogR_c _ _ _ (x.take (at' + i) ++ its.drop i) (by simp [List.map_take, List.map_drop]) (by simp; omega)) ?_ ?_)
    | (with_reducible refine PCall.df (checkLogR_c _ _ _ (x.take (at' + i) ++ its.drop i) (by simp [List.map_take, List.map_drop]) (by simp; omega)) ?_ ?_)
    | (with_reducible refine CallZ.l (PCall.kn (checkLogR_c _ _ _ (x.take (at' + i) ++ its.drop i) (by simp [List.map_take, List.map_drop]) (by simp; omega)) (by with_unfolding_all rfl) (by with_unfolding_all rfl) ?_))
    | (with_reducible refine PCall.kn (checkLogR_c _ _ _ (x.take (at' + i) ++ its.drop i) (by simp [List.map_take, List.map_drop]) (by simp; omega)) (by with_unfolding_all rfl) (by with_unfolding_all rfl) ?_)
    | (with_reducible refine PCall.dn (checkLogR_c _ _ _ (x.take (at' + i) ++ its.drop i) (by simp [List.map_take, List.map_drop]) (by simp; omega)) (by with_unfolding_all rfl) (by with_unfolding_all rfl) ?_)
    | ((with_reducible refine PCall.dz (checkLogR_c _ _ _ (x.take (at' + i) ++ its.drop i) (by simp [List.map_take, List.map_drop]) (by simp; omega)) (by with_unfolding_all rfl) (by with_unfolding_all rfl) ?_); rotate_right; rintro zh1 zq1; (try simp -dsimp [go_sem] at zq1); obtain ⟨rfl⟩ := zq1)
    | (with_reducible refine CallZ.z ?_)
    | (simp -dsimp [go_sem, Item.row, hgi, hga, hax', e10, e11, e12, e13, e14, hul1, hul2, hul3, hul4, htk]))
          all_goals first
            | omega
            | (with_reducible refine Again.auto (i + 1) ?_ ?_ ?_)
            | skip
          · simp -dsimp [go_sem]
          · rw [if_pos h] at hx
            exact ⟨hlt, by omega, hx⟩
          · show its.length - (i + 1) < its.length - i
            omega
          all_goals
            have hx' : firstNew x at' its 0 = some i := by first | exact hx | (rename_i hq; rw [if_neg (by rw [hq]; decide)] at hx; exact hx)
            rcases checkLog_or base bt (x.take (at' + i) ++ its.drop i) with hc | hc <;> simp [hc] at h <;> simp -dsimp [go_sem, matchGo, hx', hc, List.map_take, List.map_drop]
        · have hga' : x[at' + i]? = none := List.getElem?_eq_none (by omega)
          have hax' : ¬ (at' : Int) + i < x.length := by omega
          rw [hga'] at hx
          simp only [Bool.false_eq_true, if_false] at hx
          repeat' (first
    | (with_reducible refine Cnd.intro (fun h => ?_) (fun h => ?_))
    | (with_reducible refine And.intro ?_ ?_)
    | (with_reducible refine Wk.refl ?_)
    | (with_reducible exact Weak.refl _ _)
    | (with_reducible refine weak_auto ?_)
    | (with_reducible apply awp_join)
    | (with_reducible refine CallZ.l (PCall.kf (checkLogR_c _ _ _ (x.take (at' + i) ++ its.drop i) (by simp [List.map_take, List.map_drop]) (by simp; omega)) ?_ ?_))
    | (with_reducible refine PCall.kf (checkLogR_c _ _ _ (x.take (at' + i) ++ its.drop i) (by simp [List.map_take, List.map_drop]) (by simp; omega)) ?_ ?_)
    | (with_reducible refine PCall.df (checkLogR_c _ _ _ (x.take (at' + i) ++ its.drop i) (by simp [List.map_take, List.map_drop]) (by simp; omega)) ?_ ?_)
    | (with_reducible refine CallZ.l (PCall.kn (checkLogR_c _ _ _ (x.take (at' + i) ++ its.drop i) (by simp [List.map_take, List.map_drop]) (by simp; omega)) (by with_unfolding_all rfl) (by with_unfolding_all rfl) ?_))
    | (with_reducible refine PCall.kn (checkLogR_c _ _ _ (x.take (at' + i) ++ its.drop i) (by simp [List.map_take, List.map_drop]) (by simp; omega)) (by with_unfolding_all rfl) (by with_unfolding_all rfl) ?_)
    | (with_reducible refine PCall.dn (checkLogR_c _ _ _ (x.take (at' + i) ++ its.drop i) (by simp [List.map_take, List.map_drop]) (by simp; omega)) (by with_unfolding_all rfl) (by with_unfolding_all rfl) ?_)
    | ((with_reducible refine PCall.dz (checkLogR_c _ _ _ (x.take (at' + i) ++ its.drop i) (by simp [List.map_take, List.map_drop]) (by simp; omega)) (by with_unfolding_all rfl) (by with_unfolding_all rfl) ?_); rotate_right; rintro zh1 zq1; (try simp -dsimp [go_sem] at zq1); obtain ⟨rfl⟩ := zq1)
    | (with_reducible refine CallZ.z ?_)
    | (simp -dsimp [go_sem, Item.row, hgi, hax', e10, e11, e12, e13, e14, hul1, hul2, hul3, hul4, htk]))
          all_goals first
            | omega
            | skip
          all_goals
            have hx' : firstNew x at' its 0 = some i := by first | exact hx | (rename_i hq; rw [if_neg (by rw [hq]; decide)] at hx; exact hx)
            rcases checkLog_or base bt (x.take (at' + i) ++ its.drop i) with hc | hc <;> simp [hc] at h <;> simp -dsimp [go_sem, matchGo, hx', hc, List.map_take, List.map_drop]
      · have hge : ¬ i < its.length := by simpa using hh
        have hn := firstNew_none (by omega) hx
        simp -dsimp [go_sem, matchGo, hn]
end Go.Proofs.Ytniihihcklpdgaa
