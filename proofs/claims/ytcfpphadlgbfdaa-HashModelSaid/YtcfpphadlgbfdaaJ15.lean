/- What the keep's comparisons answer. -/
import Derived.Test.YtcfpphadlgbfdaaJ14
set_option linter.unusedVariables false
set_option linter.unusedSimpArgs false
set_option maxRecDepth 100000
set_option maxHeartbeats 8000000
namespace Go.Proofs.Ytcfpphadlgbfdaa
open Go Go.RowKit Go.Proofs.AE
variable {G : Nat → AV}
instance : DecidableEq Val := fun a b => decidable_of_iff (a.kind = b.kind ∧ a.text = b.text ∧ a.count = b.count ∧ a.pairs = b.pairs ∧ a.items = b.items ∧ a.scores = b.scores) (by
  cases a; cases b; simp)
theorem take_same {α : Type} {a b : List α} {i : Nat} {x y : α} (h : a.take i = b.take i) (ha : a[i]? = some x) (hb : b[i]? = some y) (e : x = y) : a.take (i + 1) = b.take (i + 1) := by
  rw [List.take_add_one, List.take_add_one, h, ha, hb, e]
theorem sameTexts_c (a b : List ByteArray) (hl : (a.length : Int) ≤ 1000000) : PCall Try.prog G 9 [.one (.v (.sl (strRows a))), .one (.v (.sl (strRows b)))] (bV (decide (a = b))) := by
  refine pcallc mixed Try.func9 ac_rostrumkeep_sameTexts ?_
  by_cases hll : a.length = b.length
  · repeat' (first | (with_reducible first | refine Cn (fun h => ?_) fun h => ?_ | refine And.intro ?_ ?_ | refine wR ?_ | exact wr _ _ | refine wa ?_ | apply awp_join) | (with_reducible refine CallZ.z ?_) | simp -dsimp [go_sem, hll])
    refine awp_loop (fun i : Nat => ⟨[(0, .one (.v (.sl (strRows a)))), (1, .one (.v (.sl (strRows b)))), (5, iV i)], G, []⟩) (fun i => i ≤ a.length ∧ a.take i = b.take i) (fun i => a.length - i) 0 (weak_auto ?_) ⟨Nat.zero_le _, rfl⟩ ?_
    · simp -dsimp [go_sem]
    · rintro i ⟨hi, hx⟩
      simp -dsimp [go_sem]
      refine Cnd.intro (fun h => ?_) (fun h => ?_)
      · have hlt : i < a.length := by simpa using h
        obtain ⟨x, hxa⟩ : ∃ x, a[i]? = some x := ⟨_, List.getElem?_eq_getElem hlt⟩
        obtain ⟨y, hyb⟩ : ∃ y, b[i]? = some y := ⟨_, List.getElem?_eq_getElem (by omega)⟩
        have e4 : IntKind.i64.wrap ((i : Int) + 1) = (i : Int) + 1 := IntWalk.i64_in _ (by omega)
        by_cases hxy : x = y
        · subst hxy
          repeat' (first | (with_reducible first | refine Cn (fun h => ?_) fun h => ?_ | refine And.intro ?_ ?_ | refine wR ?_ | exact wr _ _ | refine wa ?_ | apply awp_join) | (with_reducible refine CallZ.z ?_) | simp -dsimp [go_sem, hxa, hyb, e4])
          all_goals first
            | omega
            | (refine Again.auto (i + 1) ?_ ⟨hlt, take_same hx hxa hyb rfl⟩ ?_
               · simp -dsimp [go_sem]
               · show a.length - (i + 1) < a.length - i; omega)
           
        · have hne : ¬ a = b := fun e => by subst e; rw [hxa] at hyb; exact hxy (Option.some.inj hyb)
          have hd : decide (a = b) = false := by simpa using hne
          repeat' (first | (with_reducible first | refine Cn (fun h => ?_) fun h => ?_ | refine And.intro ?_ ?_ | refine wR ?_ | exact wr _ _ | refine wa ?_ | apply awp_join) | (with_reducible refine CallZ.z ?_) | simp -dsimp [go_sem, hxa, hyb, e4, hxy, hne, hd])
          all_goals first | omega | (simp_all; done)
      · have hge : ¬ i < a.length := by simpa using h
        have hab : a = b := by
          rw [List.take_of_length_le (by omega), List.take_of_length_le (by omega)] at hx
          exact hx
        simp -dsimp [go_sem, hab]
  · have hne : ¬ a = b := fun e => hll (by rw [e])
    have hl' : ((a.length : Int) == b.length) = false := by simp; omega
    repeat' (first | (with_reducible first | refine Cn (fun h => ?_) fun h => ?_ | refine And.intro ?_ ?_ | refine wR ?_ | exact wr _ _ | refine wa ?_ | apply awp_join) | (with_reducible refine CallZ.z ?_) | simp -dsimp [go_sem, hll, hne, hl'])
    all_goals first | (simp_all; done)
theorem sameReply_c (a b : Rep) (hl : a.list.length ≤ 1000) : PCall Try.prog G 8 [.agg a.c, .agg b.c] (bV (a.code == b.code && decide (a.text = b.text) && a.n == b.n && decide (a.list = b.list))) := by
  have ht := sameTexts_c (G := G) a.list b.list (by omega)
  unfold Rep.c
  refine pcallc mixed Try.func8 ac_rostrumkeep_sameReply ?_
  repeat' (first | (with_reducible first | refine Cn (fun h => ?_) fun h => ?_ | refine And.intro ?_ ?_ | refine wR ?_ | exact wr _ _ | refine wa ?_ | apply awp_join | refine q ht ?_ | refine qd ht ?_ | refine qz ht ?_) | (with_reducible refine CallZ.z ?_) | simp -dsimp [go_sem])
  all_goals first | (simp_all; done)
end Go.Proofs.Ytcfpphadlgbfdaa
