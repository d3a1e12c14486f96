/- The function rostrumkeep.ItemBad answers true. -/
import Derived.Test.YtlgcebeianjaiaaF
set_option linter.unusedVariables false
set_option linter.unusedSimpArgs false
set_option maxRecDepth 100000
set_option maxHeartbeats 8000000
namespace Go.Proofs.Ytlgcebeianjaiaa
open Go Go.RowKit Go.Proofs.AE
variable {G : Nat → AV}
theorem callGood {client off kind key field n : Int} {text : ByteArray} (h4 : i64 n) : ∀ c s k a b d m, itemCall client off kind key field n text = [iC c, iC s, iC k, sC a, sC b, sC d, iC m] → checkCall c s k a b d m = 0 := by
  intro c s k a b d m h
  have r2 := pk_range (n := client) (m := 50) (by omega)
  have r3 := pk_range (n := off) (m := 100) (by omega)
  unfold itemCall at h
  split at h
  · simp only [List.cons.injEq, C.v.injEq, V.lit.injEq, Value.int.injEq, Value.string.injEq, and_true, true_and] at h
    obtain ⟨rfl, rfl, rfl, rfl, rfl, rfl, rfl⟩ := h
    decide
  · simp only [List.cons.injEq, C.v.injEq, V.lit.injEq, Value.int.injEq, true_and] at h
    obtain ⟨rfl, rfl, h⟩ := h
    have hc := cmd_ok kind key field n text h4 k a b d m h
    have h1 : okNumber (pk client 50 + 1) = true := by simp only [okNumber, Bool.and_eq_true, decide_eq_true_eq]; omega
    have h2 : okNumber (1 + pk off 100) = true := by simp only [okNumber, Bool.and_eq_true, decide_eq_true_eq]; omega
    have h3 : ¬ pk client 50 + 1 = 0 := by omega
    simp [checkCall, h1, h2, h3, hc]
theorem itemBad_c (client off wait kind key field n : Int) (text : ByteArray) (m : Int) (hc : i64 client) (ho : i64 off) (h1 : i64 kind) (h2 : i64 key) (h3 : i64 field) (h4 : i64 n) (hm : i64 m) :
    PCall Try.prog G 9 [.agg [iC client, iC off, iC wait, iC kind, iC key, iC field, iC n, sC text], iV m] (bV true) := by
  have p1 : pk 3 1000 = 3 := by decide
  have p2 : pk 3 100000 = 3 := by decide
  have i3 : i64 3 := by unfold i64; omega
  have hr := pk_range (n := m) (m := 4) (by omega)
  have hk : pk m 4 = 0 ∨ pk m 4 = 1 ∨ pk m 4 = 2 ∨ pk m 4 = 3 := by omega
  obtain ⟨c, s, k, a, b, d, x, hI⟩ : ∃ c s k a b d x, itemCall client off kind key field n text = [iC c, iC s, iC k, sC a, sC b, sC d, iC x] := by
    unfold itemCall
    split
    · exact ⟨_, _, _, _, _, _, _, rfl⟩
    · exact ⟨_, _, _, _, _, _, _, rfl⟩
  have hg := callGood h4 c s k a b d x hI
  have hnc : pk client 5 = 0 → noCall c s k a b d x = true := by
    intro h
    unfold itemCall at hI
    rw [if_pos (.inl h)] at hI
    simp only [List.cons.injEq, C.v.injEq, V.lit.injEq, Value.int.injEq, Value.string.injEq, and_true, true_and] at hI
    obtain ⟨rfl, rfl, rfl, rfl, rfl, rfl, rfl⟩ := hI
    decide
  have hgood : checkItem 4 3 (decide (pk client 5 = 0)) c s k a b d x = 0 := by
    by_cases h : pk client 5 = 0
    · simp [checkItem, h, hnc h]
    · simp [checkItem, h, hg]
  refine pcall mixed Try.func9 ok_rostrumkeep_ItemBad rs_rostrumkeep_ItemBad (by simp [Try.f9]) ?_
  unfold ac_rostrumkeep_ItemBad
  rcases hk with hk | hk | hk | hk
  all_goals
    repeat' (first
    | (with_reducible refine Cnd.intro (fun h => ?_) (fun h => ?_))
    | (with_reducible refine And.intro ?_ ?_)
    | (with_reducible refine Wk.refl ?_)
    | (with_reducible exact Weak.refl _ _)
    | (with_reducible refine weak_auto ?_)
    | (with_reducible apply awp_join)
    | (with_reducible refine CallZ.l (PCall.kf (picked_c _ _ (by assumption) (by simp)) ?_ ?_))
    | (with_reducible refine PCall.kf (picked_c _ _ (by assumption) (by simp)) ?_ ?_)
    | (with_reducible refine PCall.df (picked_c _ _ (by assumption) (by simp)) ?_ ?_)
    | (with_reducible refine CallZ.l (PCall.kf (item_c _ _ _ _ _ _ _ _ _ _ (by assumption) (by assumption) (by assumption) (by assumption) (by assumption) (by assumption) i3 i3) ?_ ?_))
    | (with_reducible refine PCall.kf (item_c _ _ _ _ _ _ _ _ _ _ (by assumption) (by assumption) (by assumption) (by assumption) (by assumption) (by assumption) i3 i3) ?_ ?_)
    | (with_reducible refine PCall.df (item_c _ _ _ _ _ _ _ _ _ _ (by assumption) (by assumption) (by assumption) (by assumption) (by assumption) (by assumption) i3 i3) ?_ ?_)
    | (with_reducible refine CallZ.l (PCall.kf (checkItem_c _ _ _ _ _ _ _ _ _ _) ?_ ?_))
    | (with_reducible refine PCall.kf (checkItem_c _ _ _ _ _ _ _ _ _ _) ?_ ?_)
    | (with_reducible refine PCall.df (checkItem_c _ _ _ _ _ _ _ _ _ _) ?_ ?_)
    | (with_reducible refine CallZ.l (PCall.kf (encodeItemBad_c _ _ _ _ _ _ _ _ _ _ (by simp [checkItem, noCall])) ?_ ?_))
    | (with_reducible refine PCall.kf (encodeItemBad_c _ _ _ _ _ _ _ _ _ _ (by simp [checkItem, noCall])) ?_ ?_)
    | (with_reducible refine PCall.df (encodeItemBad_c _ _ _ _ _ _ _ _ _ _ (by simp [checkItem, noCall])) ?_ ?_)
    | (with_reducible refine CallZ.l (PCall.kn (picked_c _ _ (by assumption) (by simp)) (by with_unfolding_all rfl) (by with_unfolding_all rfl) ?_))
    | (with_reducible refine PCall.kn (picked_c _ _ (by assumption) (by simp)) (by with_unfolding_all rfl) (by with_unfolding_all rfl) ?_)
    | (with_reducible refine PCall.dn (picked_c _ _ (by assumption) (by simp)) (by with_unfolding_all rfl) (by with_unfolding_all rfl) ?_)
    | (with_reducible refine CallZ.l (PCall.kn (item_c _ _ _ _ _ _ _ _ _ _ (by assumption) (by assumption) (by assumption) (by assumption) (by assumption) (by assumption) i3 i3) (by with_unfolding_all rfl) (by with_unfolding_all rfl) ?_))
    | (with_reducible refine PCall.kn (item_c _ _ _ _ _ _ _ _ _ _ (by assumption) (by assumption) (by assumption) (by assumption) (by assumption) (by assumption) i3 i3) (by with_unfolding_all rfl) (by with_unfolding_all rfl) ?_)
    | (with_reducible refine PCall.dn (item_c _ _ _ _ _ _ _ _ _ _ (by assumption) (by assumption) (by assumption) (by assumption) (by assumption) (by assumption) i3 i3) (by with_unfolding_all rfl) (by with_unfolding_all rfl) ?_)
    | (with_reducible refine CallZ.l (PCall.kn (checkItem_c _ _ _ _ _ _ _ _ _ _) (by with_unfolding_all rfl) (by with_unfolding_all rfl) ?_))
    | (with_reducible refine PCall.kn (checkItem_c _ _ _ _ _ _ _ _ _ _) (by with_unfolding_all rfl) (by with_unfolding_all rfl) ?_)
    | (with_reducible refine PCall.dn (checkItem_c _ _ _ _ _ _ _ _ _ _) (by with_unfolding_all rfl) (by with_unfolding_all rfl) ?_)
    | (with_reducible refine CallZ.l (PCall.kn (encodeItemBad_c _ _ _ _ _ _ _ _ _ _ (by simp [checkItem, noCall])) (by with_unfolding_all rfl) (by with_unfolding_all rfl) ?_))
    | (with_reducible refine PCall.kn (encodeItemBad_c _ _ _ _ _ _ _ _ _ _ (by simp [checkItem, noCall])) (by with_unfolding_all rfl) (by with_unfolding_all rfl) ?_)
    | (with_reducible refine PCall.dn (encodeItemBad_c _ _ _ _ _ _ _ _ _ _ (by simp [checkItem, noCall])) (by with_unfolding_all rfl) (by with_unfolding_all rfl) ?_)
    | ((with_reducible refine PCall.dz (picked_c _ _ (by assumption) (by simp)) (by with_unfolding_all rfl) (by with_unfolding_all rfl) ?_); rotate_right; rintro zh1 zq1; (try simp -dsimp [go_sem] at zq1); obtain ⟨rfl⟩ := zq1)
    | ((with_reducible refine PCall.dz (item_c _ _ _ _ _ _ _ _ _ _ (by assumption) (by assumption) (by assumption) (by assumption) (by assumption) (by assumption) i3 i3) (by with_unfolding_all rfl) (by with_unfolding_all rfl) ?_); rotate_right; rintro zh1 zq1; (try simp -dsimp [go_sem] at zq1); obtain ⟨rfl⟩ := zq1)
    | ((with_reducible refine PCall.dz (checkItem_c _ _ _ _ _ _ _ _ _ _) (by with_unfolding_all rfl) (by with_unfolding_all rfl) ?_); rotate_right; rintro zh1 zq1; (try simp -dsimp [go_sem] at zq1); obtain ⟨rfl⟩ := zq1)
    | ((with_reducible refine PCall.dz (encodeItemBad_c _ _ _ _ _ _ _ _ _ _ (by simp [checkItem, noCall])) (by with_unfolding_all rfl) (by with_unfolding_all rfl) ?_); rotate_right; rintro zh1 zq1; (try simp -dsimp [go_sem] at zq1); obtain ⟨rfl⟩ := zq1)
    | (with_reducible refine CallZ.z ?_)
    | (simp -dsimp [go_sem, hI, hk, p1, p2, hgood]))
  all_goals simp_all [checkItem, noCall]
end Go.Proofs.Ytlgcebeianjaiaa
