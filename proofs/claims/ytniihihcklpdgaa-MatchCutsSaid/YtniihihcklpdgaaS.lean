/- Items behind a place; logs that are trimmed, and matched: what the ledger's functions answer. -/
import Derived.Test.YtniihihcklpdgaaQ
set_option linter.unusedVariables false
set_option linter.unusedSimpArgs false
set_option maxRecDepth 100000
set_option maxHeartbeats 8000000
namespace Go.Proofs.Ytniihihcklpdgaa
open Go Go.RowKit Go.Proofs.AE
variable {G : Nat → AV}
abbrev rowsV (x : List Item) : AV := .one (.v (.sl (x.map Item.row)))
/-! ### the same items -/
def Item.same (x y : Item) : Bool := (x.term == y.term) && ((x.time == y.time) && ((x.nop == y.nop) && ((x.client == y.client) && ((x.seq == y.seq) && ((x.k == y.k) && (decide (x.key = y.key) && (decide (x.field = y.field) && (decide (x.text = y.text) && (x.n == y.n)))))))))
theorem Item.same_iff (x y : Item) : x.same y = true ↔ x = y := by
  cases x; cases y; simp [Item.same]
instance : DecidableEq Item := fun x y => decidable_of_iff (x.same y = true) (Item.same_iff x y)
theorem Item.same_dec (x y : Item) : x.same y = decide (x = y) := by
  rw [Bool.eq_iff_iff, Item.same_iff, decide_eq_true_iff]
theorem sameItems_c (a b : List Item) (ha : (a.length : Int) ≤ 9223372036854775807) : PCall Try.prog G 22 [rowsV a, rowsV b] (bV (decide (a = b))) := by
  refine pcall mixed Try.func22 ok_rostrumkeep_sameItems rs_rostrumkeep_sameItems (by simp [Try.f22]) ?_
  unfold ac_rostrumkeep_sameItems
  by_cases hl : a.length = b.length
  · repeat' (first
    | (with_reducible refine Cnd.intro (fun h => ?_) (fun h => ?_))
    | (with_reducible refine And.intro ?_ ?_)
    | (with_reducible refine Wk.refl ?_)
    | (with_reducible exact Weak.refl _ _)
    | (with_reducible refine weak_auto ?_)
    | (with_reducible apply awp_join)
    | (with_reducible refine CallZ.z ?_)
    | (simp -dsimp [go_sem, hl]))
    refine awp_loop (fun i : Nat => ⟨[(0, rowsV a), (1, rowsV b), (5, iV i)], G, []⟩) (fun i => i ≤ a.length ∧ a.take i = b.take i) (fun i => a.length - i) 0 (weak_auto ?_) ⟨Nat.zero_le _, rfl⟩ ?_
    · simp -dsimp [go_sem]
    · rintro i ⟨hi, hx⟩
      simp -dsimp [go_sem]
      refine Cnd.intro (fun h => ?_) (fun h => ?_)
      · have hlt : i < a.length := by simpa using h
        have hlt' : i < b.length := by omega
        have hga : (a.map Item.row)[i]? = some a[i].row := by simp [hlt]
        have hgb : (b.map Item.row)[i]? = some b[i].row := by simp [hlt']
        have hs : a[i].same b[i] = decide (a[i] = b[i]) := Item.same_dec _ _
        have e4 : IntKind.i64.wrap ((i : Int) + 1) = (i : Int) + 1 := IntWalk.i64_in _ (by omega)
        unfold Item.same at hs
        repeat' (first
    | (with_reducible refine Cnd.intro (fun h => ?_) (fun h => ?_))
    | (with_reducible refine And.intro ?_ ?_)
    | (with_reducible refine Wk.refl ?_)
    | (with_reducible exact Weak.refl _ _)
    | (with_reducible refine weak_auto ?_)
    | (with_reducible apply awp_join)
    | (with_reducible refine CallZ.z ?_)
    | (simp -dsimp [go_sem, hga, hgb, Item.row, hs, e4]))
        all_goals first
          | (with_reducible refine Again.auto (i + 1) ?_ ?_ ?_)
          | skip
        · intro hab; subst hab; simp_all
        · simp -dsimp [go_sem]
        · refine ⟨hlt, ?_⟩
          have hab : a[i] = b[i] := by simp_all
          rw [List.take_succ_eq_append_getElem hlt, List.take_succ_eq_append_getElem hlt', hx, hab]
        · show a.length - (i + 1) < a.length - i
          omega
      · have hge : ¬ i < a.length := by simpa using h
        have hab : a = b := by
          rw [List.take_of_length_le (by omega), List.take_of_length_le (by omega)] at hx
          exact hx
        simp -dsimp [go_sem, hab]
  · have hne : ¬ a = b := fun e => hl (by rw [e])
    have hl' : ¬ ((a.length : Int) = b.length) := by omega
    repeat' (first
    | (with_reducible refine Cnd.intro (fun h => ?_) (fun h => ?_))
    | (with_reducible refine And.intro ?_ ?_)
    | (with_reducible refine Wk.refl ?_)
    | (with_reducible exact Weak.refl _ _)
    | (with_reducible refine weak_auto ?_)
    | (with_reducible apply awp_join)
    | (with_reducible refine CallZ.z ?_)
    | (simp -dsimp [go_sem, hl, hne, hl']))
    all_goals simp_all
theorem sameLog_c (base bt : Int) (x : List Item) (base' bt' : Int) (x' : List Item) (hx : (x.length : Int) ≤ 9223372036854775807) : PCall Try.prog G 26 [.agg (logC base bt x), .agg (logC base' bt' x')] (bV (decide (base = base' ∧ bt = bt' ∧ x = x'))) := by
  refine pcall mixed Try.func26 ok_rostrumkeep_sameLog rs_rostrumkeep_sameLog (by simp [Try.f26]) ?_
  unfold ac_rostrumkeep_sameLog
  repeat' (first
    | (with_reducible refine Cnd.intro (fun h => ?_) (fun h => ?_))
    | (with_reducible refine And.intro ?_ ?_)
    | (with_reducible refine Wk.refl ?_)
    | (with_reducible exact Weak.refl _ _)
    | (with_reducible refine weak_auto ?_)
    | (with_reducible apply awp_join)
    | (with_reducible refine CallZ.l (PCall.kf (sameItems_c _ _ hx) ?_ ?_))
    | (with_reducible refine PCall.kf (sameItems_c _ _ hx) ?_ ?_)
    | (with_reducible refine PCall.df (sameItems_c _ _ hx) ?_ ?_)
    | (with_reducible refine CallZ.l (PCall.kn (sameItems_c _ _ hx) (by with_unfolding_all rfl) (by with_unfolding_all rfl) ?_))
    | (with_reducible refine PCall.kn (sameItems_c _ _ hx) (by with_unfolding_all rfl) (by with_unfolding_all rfl) ?_)
    | (with_reducible refine PCall.dn (sameItems_c _ _ hx) (by with_unfolding_all rfl) (by with_unfolding_all rfl) ?_)
    | ((with_reducible refine PCall.dz (sameItems_c _ _ hx) (by with_unfolding_all rfl) (by with_unfolding_all rfl) ?_); rotate_right; rintro zh1 zq1; (try simp -dsimp [go_sem] at zq1); obtain ⟨rfl⟩ := zq1)
    | (with_reducible refine CallZ.z ?_)
    | (simp -dsimp [go_sem]))
  all_goals simp_all

theorem last_room (base bt : Int) (x : List Item) (h : checkLog base bt x = 0) : base + x.length ≤ 1048576 := by
  unfold checkLog at h
  split at h
  · rename_i hh
    simp [headOk] at hh
    omega
  · cases h
theorem termErr_range {base : Int} {n : Nat} {place : Int} (ht : termErr base n place = 0) : base ≤ place ∧ place - base ≤ n := by
  unfold termErr at ht
  split at ht
  · cases ht
  · split at ht
    · omega
    · split at ht
      · cases ht
      · omega
theorem termErr_ok {base : Int} {n : Nat} {place : Int} (h : base ≤ place ∧ place - base ≤ n) : termErr base n place = 0 := by
  unfold termErr
  rw [if_neg (by omega)]
  split
  · rfl
  · rw [if_neg (by omega)]
/-! ### a place's term, whatever the place -/
theorem termI_c (base bt : Int) (x : List Item) (place : Int) (hb : 0 ≤ base ∧ base + x.length ≤ 1048576) (hx : x.length ≤ 200) (hp : i64 place) : PCall Try.prog G 35 [.agg (logC base bt x), iV place] (.tup [iV (termAt base bt x place), iV (termErr base x.length place)]) := by
  unfold i64 at hp
  by_cases h1 : place < base
  · refine pcall mixed Try.func35 ok_ledger_term rs_ledger_term (by simp [Try.f35]) ?_
    unfold ac_ledger_term
    repeat' (first
    | (with_reducible refine Cnd.intro (fun h => ?_) (fun h => ?_))
    | (with_reducible refine And.intro ?_ ?_)
    | (with_reducible refine Wk.refl ?_)
    | (with_reducible exact Weak.refl _ _)
    | (with_reducible refine weak_auto ?_)
    | (with_reducible apply awp_join)
    | (with_reducible refine CallZ.z ?_)
    | (simp -dsimp [go_sem, h1, termAt, termErr]))
  · by_cases h2 : place ≤ 1048576
    · exact term_c base bt x place ⟨hb.1, by omega⟩ hx ⟨by omega, h2⟩
    · have e1 : IntKind.i64.wrap (place - base) = place - base := IntWalk.i64_in _ (by omega)
      have h3 : ¬ place = base := by omega
      have h4 : (x.length : Int) < place - base := by omega
      refine pcall mixed Try.func35 ok_ledger_term rs_ledger_term (by simp [Try.f35]) ?_
      unfold ac_ledger_term
      repeat' (first
    | (with_reducible refine Cnd.intro (fun h => ?_) (fun h => ?_))
    | (with_reducible refine And.intro ?_ ?_)
    | (with_reducible refine Wk.refl ?_)
    | (with_reducible exact Weak.refl _ _)
    | (with_reducible refine weak_auto ?_)
    | (with_reducible apply awp_join)
    | (with_reducible refine CallZ.z ?_)
    | (simp -dsimp [go_sem, h1, h3, h4, e1, termAt, termErr]))
      all_goals simp_all

/-! ### clones -/
theorem cloneItems_c (rows : List (List V)) (hu : UL 10 rows) (hx : rows.length ≤ 1000000) : PCall Try.prog G 36 [.one (.v (.sl rows))] (.one (.v (.sl rows))) := by
  refine pcall mixed Try.func36 ok_slices_Clone_api_Item rs_slices_Clone_api_Item (by simp [Try.f36]) ?_
  unfold ac_slices_Clone_api_Item
  repeat' (first
    | (with_reducible refine Cnd.intro (fun h => ?_) (fun h => ?_))
    | (with_reducible refine And.intro ?_ ?_)
    | (with_reducible refine Wk.refl ?_)
    | (with_reducible exact Weak.refl _ _)
    | (with_reducible refine weak_auto ?_)
    | (with_reducible apply awp_join)
    | (intro q hq)
    | (with_reducible refine CallZ.l (PCall.kf (cases q) ?_ ?_))
    | (with_reducible refine PCall.kf (cases q) ?_ ?_)
    | (with_reducible refine PCall.df (cases q) ?_ ?_)
    | (with_reducible refine CallZ.l (PCall.kn (cases q) (by with_unfolding_all rfl) (by with_unfolding_all rfl) ?_))
    | (with_reducible refine PCall.kn (cases q) (by with_unfolding_all rfl) (by with_unfolding_all rfl) ?_)
    | (with_reducible refine PCall.dn (cases q) (by with_unfolding_all rfl) (by with_unfolding_all rfl) ?_)
    | ((with_reducible refine PCall.dz (cases q) (by with_unfolding_all rfl) (by with_unfolding_all rfl) ?_); rotate_right; rintro zh1 zq1; (try simp -dsimp [go_sem] at zq1); obtain ⟨rfl⟩ := zq1)
    | (with_reducible refine CallZ.z ?_)
    | (simp -dsimp [go_sem]))
  all_goals first | omega | exact hu _ ‹_›
theorem ul_rows (x : List Item) : UL 10 (x.map Item.row) := by
  intro r hr
  obtain ⟨y, _, rfl⟩ := List.mem_map.1 hr
  rfl
theorem ul_take {k n : Nat} {rows : List (List V)} (h : UL k rows) : UL k (rows.take n) := fun r hr => h r (List.mem_of_mem_take hr)
theorem ul_drop {k n : Nat} {rows : List (List V)} (h : UL k rows) : UL k (rows.drop n) := fun r hr => h r (List.mem_of_mem_drop hr)

/-! ### behind a place -/
def behind (base : Int) (x : List Item) (place most : Int) : List Item := (x.drop (place - base).toNat).take most.toNat
theorem behind_c (base bt : Int) (x : List Item) (place most : Int) (h : checkLog base bt x = 0) (hp : 0 ≤ place ∧ place ≤ 1048576) (hm : 0 ≤ most) (ht : termErr base x.length place = 0) :
    PCall Try.prog G 21 [.agg (logC base bt x), iV place, iV most] (.tup [rowsV (behind base x place most), iV 0]) := by
  obtain ⟨b1, b2, b3, b4, b5⟩ := last_c' base bt x h
  have hr := termErr_range ht
  have e1 : IntKind.i64.wrap (place - base) = place - base := IntWalk.i64_in _ (by omega)
  have p1 : ¬ place < 0 := by omega
  have p2 : ¬ 1048576 < place := by omega
  have p3 : ¬ most < 0 := by omega
  have p4 : 0 ≤ place - base := by omega
  have hcl : ∀ n m : Nat, UL 10 (((x.map Item.row).drop n).take m) ∧ (((x.map Item.row).drop n).take m).length ≤ 1000000 := fun n m => ⟨ul_take (ul_drop (ul_rows x)), by simp; omega⟩
  have htk : (x.map Item.row).take x.length = x.map Item.row := List.take_of_length_le (by simp)
  refine pcall mixed Try.func21 ok_ledger_Behind rs_ledger_Behind (by simp [Try.f21]) ?_
  unfold ac_ledger_Behind
  repeat' (first
    | (with_reducible refine Cnd.intro (fun h => ?_) (fun h => ?_))
    | (with_reducible refine And.intro ?_ ?_)
    | (with_reducible refine Wk.refl ?_)
    | (with_reducible exact Weak.refl _ _)
    | (with_reducible refine weak_auto ?_)
    | (with_reducible apply awp_join)
    | (with_reducible refine CallZ.l (PCall.kf (checkLog_c _ _ _ (by omega)) ?_ ?_))
    | (with_reducible refine PCall.kf (checkLog_c _ _ _ (by omega)) ?_ ?_)
    | (with_reducible refine PCall.df (checkLog_c _ _ _ (by omega)) ?_ ?_)
    | (with_reducible refine CallZ.l (PCall.kf (term_c _ _ _ _ ⟨b1, b2⟩ b3 hp) ?_ ?_))
    | (with_reducible refine PCall.kf (term_c _ _ _ _ ⟨b1, b2⟩ b3 hp) ?_ ?_)
    | (with_reducible refine PCall.df (term_c _ _ _ _ ⟨b1, b2⟩ b3 hp) ?_ ?_)
    | (with_reducible refine CallZ.l (PCall.kf (cloneItems_c _ (hcl _ _).1 (hcl _ _).2) ?_ ?_))
    | (with_reducible refine PCall.kf (cloneItems_c _ (hcl _ _).1 (hcl _ _).2) ?_ ?_)
    | (with_reducible refine PCall.df (cloneItems_c _ (hcl _ _).1 (hcl _ _).2) ?_ ?_)
    | (with_reducible refine CallZ.l (PCall.kn (checkLog_c _ _ _ (by omega)) (by with_unfolding_all rfl) (by with_unfolding_all rfl) ?_))
    | (with_reducible refine PCall.kn (checkLog_c _ _ _ (by omega)) (by with_unfolding_all rfl) (by with_unfolding_all rfl) ?_)
    | (with_reducible refine PCall.dn (checkLog_c _ _ _ (by omega)) (by with_unfolding_all rfl) (by with_unfolding_all rfl) ?_)
    | (with_reducible refine CallZ.l (PCall.kn (term_c _ _ _ _ ⟨b1, b2⟩ b3 hp) (by with_unfolding_all rfl) (by with_unfolding_all rfl) ?_))
    | (with_reducible refine PCall.kn (term_c _ _ _ _ ⟨b1, b2⟩ b3 hp) (by with_unfolding_all rfl) (by with_unfolding_all rfl) ?_)
    | (with_reducible refine PCall.dn (term_c _ _ _ _ ⟨b1, b2⟩ b3 hp) (by with_unfolding_all rfl) (by with_unfolding_all rfl) ?_)
    | (with_reducible refine CallZ.l (PCall.kn (cloneItems_c _ (hcl _ _).1 (hcl _ _).2) (by with_unfolding_all rfl) (by with_unfolding_all rfl) ?_))
    | (with_reducible refine PCall.kn (cloneItems_c _ (hcl _ _).1 (hcl _ _).2) (by with_unfolding_all rfl) (by with_unfolding_all rfl) ?_)
    | (with_reducible refine PCall.dn (cloneItems_c _ (hcl _ _).1 (hcl _ _).2) (by with_unfolding_all rfl) (by with_unfolding_all rfl) ?_)
    | ((with_reducible refine PCall.dz (checkLog_c _ _ _ (by omega)) (by with_unfolding_all rfl) (by with_unfolding_all rfl) ?_); rotate_right; rintro zh1 zq1; (try simp -dsimp [go_sem] at zq1); obtain ⟨rfl⟩ := zq1)
    | ((with_reducible refine PCall.dz (term_c _ _ _ _ ⟨b1, b2⟩ b3 hp) (by with_unfolding_all rfl) (by with_unfolding_all rfl) ?_); rotate_right; rintro zh1 zq1; (try simp -dsimp [go_sem] at zq1); obtain ⟨rfl⟩ := zq1)
    | ((with_reducible refine PCall.dz (cloneItems_c _ (hcl _ _).1 (hcl _ _).2) (by with_unfolding_all rfl) (by with_unfolding_all rfl) ?_); rotate_right; rintro zh1 zq1; (try simp -dsimp [go_sem] at zq1); obtain ⟨rfl⟩ := zq1)
    | (with_reducible refine CallZ.z ?_)
    | (simp -dsimp [go_sem, htk, h, ht, e1, p1, p2, p3, p4]))
  all_goals first | omega | exact ul_rows _ | exact ul_drop (ul_rows _) | skip
  unfold behind
  rw [List.map_take, List.map_drop]
  split
  · rfl
  · rename_i hlt
    rw [List.take_of_length_le (by simp; omega), List.take_of_length_le (by simp)]
theorem behindMost_c (base bt : Int) (x : List Item) (place most : Int) (h : checkLog base bt x = 0) (hp : 0 ≤ place ∧ place ≤ 1048576) (hm : most < 0) :
    PCall Try.prog G 21 [.agg (logC base bt x), iV place, iV most] (.tup [rowsV [], iV 2]) := by
  obtain ⟨b1, b2, b3, b4, b5⟩ := last_c' base bt x h
  have p1 : ¬ place < 0 := by omega
  have p2 : ¬ 1048576 < place := by omega
  refine pcall mixed Try.func21 ok_ledger_Behind rs_ledger_Behind (by simp [Try.f21]) ?_
  unfold ac_ledger_Behind
  repeat' (first
    | (with_reducible refine Cnd.intro (fun h => ?_) (fun h => ?_))
    | (with_reducible refine And.intro ?_ ?_)
    | (with_reducible refine Wk.refl ?_)
    | (with_reducible exact Weak.refl _ _)
    | (with_reducible refine weak_auto ?_)
    | (with_reducible apply awp_join)
    | (with_reducible refine CallZ.l (PCall.kf (checkLog_c _ _ _ (by omega)) ?_ ?_))
    | (with_reducible refine PCall.kf (checkLog_c _ _ _ (by omega)) ?_ ?_)
    | (with_reducible refine PCall.df (checkLog_c _ _ _ (by omega)) ?_ ?_)
    | (with_reducible refine CallZ.l (PCall.kn (checkLog_c _ _ _ (by omega)) (by with_unfolding_all rfl) (by with_unfolding_all rfl) ?_))
    | (with_reducible refine PCall.kn (checkLog_c _ _ _ (by omega)) (by with_unfolding_all rfl) (by with_unfolding_all rfl) ?_)
    | (with_reducible refine PCall.dn (checkLog_c _ _ _ (by omega)) (by with_unfolding_all rfl) (by with_unfolding_all rfl) ?_)
    | ((with_reducible refine PCall.dz (checkLog_c _ _ _ (by omega)) (by with_unfolding_all rfl) (by with_unfolding_all rfl) ?_); rotate_right; rintro zh1 zq1; (try simp -dsimp [go_sem] at zq1); obtain ⟨rfl⟩ := zq1)
    | (with_reducible refine CallZ.z ?_)
    | (simp -dsimp [go_sem, h, p1, p2, hm]))
theorem behindErr_c (base bt : Int) (x : List Item) (place most : Int) (h : checkLog base bt x = 0) (hp : 0 ≤ place ∧ place ≤ 1048576) (hm : 0 ≤ most) (ht : termErr base x.length place ≠ 0) :
    PCall Try.prog G 21 [.agg (logC base bt x), iV place, iV most] (.tup [rowsV [], iV (termErr base x.length place)]) := by
  have ht1 : (termErr base x.length place != 0) = true := by simpa using ht
  obtain ⟨b1, b2, b3, b4, b5⟩ := last_c' base bt x h
  have p1 : ¬ place < 0 := by omega
  have p2 : ¬ 1048576 < place := by omega
  have p3 : ¬ most < 0 := by omega
  refine pcall mixed Try.func21 ok_ledger_Behind rs_ledger_Behind (by simp [Try.f21]) ?_
  unfold ac_ledger_Behind
  repeat' (first
    | (with_reducible refine Cnd.intro (fun h => ?_) (fun h => ?_))
    | (with_reducible refine And.intro ?_ ?_)
    | (with_reducible refine Wk.refl ?_)
    | (with_reducible exact Weak.refl _ _)
    | (with_reducible refine weak_auto ?_)
    | (with_reducible apply awp_join)
    | (with_reducible refine CallZ.l (PCall.kf (checkLog_c _ _ _ (by omega)) ?_ ?_))
    | (with_reducible refine PCall.kf (checkLog_c _ _ _ (by omega)) ?_ ?_)
    | (with_reducible refine PCall.df (checkLog_c _ _ _ (by omega)) ?_ ?_)
    | (with_reducible refine CallZ.l (PCall.kf (term_c _ _ _ _ ⟨b1, b2⟩ b3 hp) ?_ ?_))
    | (with_reducible refine PCall.kf (term_c _ _ _ _ ⟨b1, b2⟩ b3 hp) ?_ ?_)
    | (with_reducible refine PCall.df (term_c _ _ _ _ ⟨b1, b2⟩ b3 hp) ?_ ?_)
    | (with_reducible refine CallZ.l (PCall.kn (checkLog_c _ _ _ (by omega)) (by with_unfolding_all rfl) (by with_unfolding_all rfl) ?_))
    | (with_reducible refine PCall.kn (checkLog_c _ _ _ (by omega)) (by with_unfolding_all rfl) (by with_unfolding_all rfl) ?_)
    | (with_reducible refine PCall.dn (checkLog_c _ _ _ (by omega)) (by with_unfolding_all rfl) (by with_unfolding_all rfl) ?_)
    | (with_reducible refine CallZ.l (PCall.kn (term_c _ _ _ _ ⟨b1, b2⟩ b3 hp) (by with_unfolding_all rfl) (by with_unfolding_all rfl) ?_))
    | (with_reducible refine PCall.kn (term_c _ _ _ _ ⟨b1, b2⟩ b3 hp) (by with_unfolding_all rfl) (by with_unfolding_all rfl) ?_)
    | (with_reducible refine PCall.dn (term_c _ _ _ _ ⟨b1, b2⟩ b3 hp) (by with_unfolding_all rfl) (by with_unfolding_all rfl) ?_)
    | ((with_reducible refine PCall.dz (checkLog_c _ _ _ (by omega)) (by with_unfolding_all rfl) (by with_unfolding_all rfl) ?_); rotate_right; rintro zh1 zq1; (try simp -dsimp [go_sem] at zq1); obtain ⟨rfl⟩ := zq1)
    | ((with_reducible refine PCall.dz (term_c _ _ _ _ ⟨b1, b2⟩ b3 hp) (by with_unfolding_all rfl) (by with_unfolding_all rfl) ?_); rotate_right; rintro zh1 zq1; (try simp -dsimp [go_sem] at zq1); obtain ⟨rfl⟩ := zq1)
    | (with_reducible refine CallZ.z ?_)
    | (simp -dsimp [go_sem, h, ht1, p1, p2, p3]))
/-! ### trim -/
theorem trim_c (base bt : Int) (x : List Item) (place : Int) (h : checkLog base bt x = 0) (hp : i64 place) (ht : termErr base x.length place = 0) :
    PCall Try.prog G 23 [.agg (logC base bt x), iV place] (.tup [.agg (logC place (termAt base bt x place) (x.drop (place - base).toNat)), iV 0]) := by
  obtain ⟨b1, b2, b3, b4, b5⟩ := last_c' base bt x h
  have b6 := last_room base bt x h
  have hr := termErr_range ht
  have e1 : IntKind.i64.wrap (place - base) = place - base := IntWalk.i64_in _ (by omega)
  have hcl : ∀ n : Nat, UL 10 ((x.map Item.row).drop n) ∧ ((x.map Item.row).drop n).length ≤ 1000000 := fun n => ⟨ul_drop (ul_rows x), by simp; omega⟩
  have htk : (x.map Item.row).take x.length = x.map Item.row := List.take_of_length_le (by simp)
  refine pcall mixed Try.func23 ok_ledger_Trim rs_ledger_Trim (by simp [Try.f23]) ?_
  unfold ac_ledger_Trim
  repeat' (first
    | (with_reducible refine Cnd.intro (fun h => ?_) (fun h => ?_))
    | (with_reducible refine And.intro ?_ ?_)
    | (with_reducible refine Wk.refl ?_)
    | (with_reducible exact Weak.refl _ _)
    | (with_reducible refine weak_auto ?_)
    | (with_reducible apply awp_join)
    | (with_reducible refine CallZ.l (PCall.kf (checkLog_c _ _ _ (by omega)) ?_ ?_))
    | (with_reducible refine PCall.kf (checkLog_c _ _ _ (by omega)) ?_ ?_)
    | (with_reducible refine PCall.df (checkLog_c _ _ _ (by omega)) ?_ ?_)
    | (with_reducible refine CallZ.l (PCall.kf (termI_c _ _ _ _ ⟨b1, b6⟩ b3 hp) ?_ ?_))
    | (with_reducible refine PCall.kf (termI_c _ _ _ _ ⟨b1, b6⟩ b3 hp) ?_ ?_)
    | (with_reducible refine PCall.df (termI_c _ _ _ _ ⟨b1, b6⟩ b3 hp) ?_ ?_)
    | (with_reducible refine CallZ.l (PCall.kf (cloneItems_c _ (hcl _).1 (hcl _).2) ?_ ?_))
    | (with_reducible refine PCall.kf (cloneItems_c _ (hcl _).1 (hcl _).2) ?_ ?_)
    | (with_reducible refine PCall.df (cloneItems_c _ (hcl _).1 (hcl _).2) ?_ ?_)
    | (with_reducible refine CallZ.l (PCall.kn (checkLog_c _ _ _ (by omega)) (by with_unfolding_all rfl) (by with_unfolding_all rfl) ?_))
    | (with_reducible refine PCall.kn (checkLog_c _ _ _ (by omega)) (by with_unfolding_all rfl) (by with_unfolding_all rfl) ?_)
    | (with_reducible refine PCall.dn (checkLog_c _ _ _ (by omega)) (by with_unfolding_all rfl) (by with_unfolding_all rfl) ?_)
    | (with_reducible refine CallZ.l (PCall.kn (termI_c _ _ _ _ ⟨b1, b6⟩ b3 hp) (by with_unfolding_all rfl) (by with_unfolding_all rfl) ?_))
    | (with_reducible refine PCall.kn (termI_c _ _ _ _ ⟨b1, b6⟩ b3 hp) (by with_unfolding_all rfl) (by with_unfolding_all rfl) ?_)
    | (with_reducible refine PCall.dn (termI_c _ _ _ _ ⟨b1, b6⟩ b3 hp) (by with_unfolding_all rfl) (by with_unfolding_all rfl) ?_)
    | (with_reducible refine CallZ.l (PCall.kn (cloneItems_c _ (hcl _).1 (hcl _).2) (by with_unfolding_all rfl) (by with_unfolding_all rfl) ?_))
    | (with_reducible refine PCall.kn (cloneItems_c _ (hcl _).1 (hcl _).2) (by with_unfolding_all rfl) (by with_unfolding_all rfl) ?_)
    | (with_reducible refine PCall.dn (cloneItems_c _ (hcl _).1 (hcl _).2) (by with_unfolding_all rfl) (by with_unfolding_all rfl) ?_)
    | ((with_reducible refine PCall.dz (checkLog_c _ _ _ (by omega)) (by with_unfolding_all rfl) (by with_unfolding_all rfl) ?_); rotate_right; rintro zh1 zq1; (try simp -dsimp [go_sem] at zq1); obtain ⟨rfl⟩ := zq1)
    | ((with_reducible refine PCall.dz (termI_c _ _ _ _ ⟨b1, b6⟩ b3 hp) (by with_unfolding_all rfl) (by with_unfolding_all rfl) ?_); rotate_right; rintro zh1 zq1; (try simp -dsimp [go_sem] at zq1); obtain ⟨rfl⟩ := zq1)
    | ((with_reducible refine PCall.dz (cloneItems_c _ (hcl _).1 (hcl _).2) (by with_unfolding_all rfl) (by with_unfolding_all rfl) ?_); rotate_right; rintro zh1 zq1; (try simp -dsimp [go_sem] at zq1); obtain ⟨rfl⟩ := zq1)
    | (with_reducible refine CallZ.z ?_)
    | (simp -dsimp [go_sem, htk, h, ht, e1]))
  all_goals first | omega | exact ul_rows _ | (simp [List.map_drop]; done) | skip
theorem trimErr_c (base bt : Int) (x : List Item) (place : Int) (h : checkLog base bt x = 0) (hp : i64 place) (ht : termErr base x.length place ≠ 0) :
    PCall Try.prog G 23 [.agg (logC base bt x), iV place] (.tup [.agg (logC 0 0 []), iV (termErr base x.length place)]) := by
  have ht1 : (termErr base x.length place != 0) = true := by simpa using ht
  obtain ⟨b1, b2, b3, b4, b5⟩ := last_c' base bt x h
  have b6 := last_room base bt x h
  refine pcall mixed Try.func23 ok_ledger_Trim rs_ledger_Trim (by simp [Try.f23]) ?_
  unfold ac_ledger_Trim
  repeat' (first
    | (with_reducible refine Cnd.intro (fun h => ?_) (fun h => ?_))
    | (with_reducible refine And.intro ?_ ?_)
    | (with_reducible refine Wk.refl ?_)
    | (with_reducible exact Weak.refl _ _)
    | (with_reducible refine weak_auto ?_)
    | (with_reducible apply awp_join)
    | (with_reducible refine CallZ.l (PCall.kf (checkLog_c _ _ _ (by omega)) ?_ ?_))
    | (with_reducible refine PCall.kf (checkLog_c _ _ _ (by omega)) ?_ ?_)
    | (with_reducible refine PCall.df (checkLog_c _ _ _ (by omega)) ?_ ?_)
    | (with_reducible refine CallZ.l (PCall.kf (termI_c _ _ _ _ ⟨b1, b6⟩ b3 hp) ?_ ?_))
    | (with_reducible refine PCall.kf (termI_c _ _ _ _ ⟨b1, b6⟩ b3 hp) ?_ ?_)
    | (with_reducible refine PCall.df (termI_c _ _ _ _ ⟨b1, b6⟩ b3 hp) ?_ ?_)
    | (with_reducible refine CallZ.l (PCall.kn (checkLog_c _ _ _ (by omega)) (by with_unfolding_all rfl) (by with_unfolding_all rfl) ?_))
    | (with_reducible refine PCall.kn (checkLog_c _ _ _ (by omega)) (by with_unfolding_all rfl) (by with_unfolding_all rfl) ?_)
    | (with_reducible refine PCall.dn (checkLog_c _ _ _ (by omega)) (by with_unfolding_all rfl) (by with_unfolding_all rfl) ?_)
    | (with_reducible refine CallZ.l (PCall.kn (termI_c _ _ _ _ ⟨b1, b6⟩ b3 hp) (by with_unfolding_all rfl) (by with_unfolding_all rfl) ?_))
    | (with_reducible refine PCall.kn (termI_c _ _ _ _ ⟨b1, b6⟩ b3 hp) (by with_unfolding_all rfl) (by with_unfolding_all rfl) ?_)
    | (with_reducible refine PCall.dn (termI_c _ _ _ _ ⟨b1, b6⟩ b3 hp) (by with_unfolding_all rfl) (by with_unfolding_all rfl) ?_)
    | ((with_reducible refine PCall.dz (checkLog_c _ _ _ (by omega)) (by with_unfolding_all rfl) (by with_unfolding_all rfl) ?_); rotate_right; rintro zh1 zq1; (try simp -dsimp [go_sem] at zq1); obtain ⟨rfl⟩ := zq1)
    | ((with_reducible refine PCall.dz (termI_c _ _ _ _ ⟨b1, b6⟩ b3 hp) (by with_unfolding_all rfl) (by with_unfolding_all rfl) ?_); rotate_right; rintro zh1 zq1; (try simp -dsimp [go_sem] at zq1); obtain ⟨rfl⟩ := zq1)
    | (with_reducible refine CallZ.z ?_)
    | (simp -dsimp [go_sem, h, ht1]))
end Go.Proofs.Ytniihihcklpdgaa
