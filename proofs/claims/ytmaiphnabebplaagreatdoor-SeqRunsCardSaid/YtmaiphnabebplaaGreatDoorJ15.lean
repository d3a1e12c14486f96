/- What the keep's comparisons answer. -/
import Derived.Test.YtmaiphnabebplaaGreatDoorJ14
set_option linter.unusedVariables false
set_option linter.unusedSimpArgs false
set_option maxRecDepth 100000
set_option maxHeartbeats 8000000
namespace Go.Proofs.YtmaiphnabebplaaGreatDoor
open Go Go.RowKit Go.Proofs.AE
variable {G : Nat → AV}
instance : DecidableEq Val := fun a b => decidable_of_iff (a.kind = b.kind ∧ a.text = b.text ∧ a.count = b.count ∧ a.pairs = b.pairs ∧ a.items = b.items ∧ a.scores = b.scores) (by
  cases a; cases b; simp)
theorem take_same {α : Type} {a b : List α} {i : Nat} {x y : α} (h : a.take i = b.take i) (ha : a[i]? = some x) (hb : b[i]? = some y) (e : x = y) : a.take (i + 1) = b.take (i + 1) := by
  rw [List.take_add_one, List.take_add_one, h, ha, hb, e]
theorem sameTexts_c (a b : List ByteArray) (hl : (a.length : Int) ≤ 1000000) : PCall Tryz.prog G 35 [.one (.v (.sl (strRows a))), .one (.v (.sl (strRows b)))] (bV (decide (a = b))) := by
  refine pcallc mixed Tryz.func35 ac_rostrumkeep_sameTexts ?_
  by_cases hll : a.length = b.length
  · repeat' (first | (with_reducible first | refine Cn (fun h => ?_) fun h => ?_ | refine And.intro ?_ ?_ | refine wR ?_ | exact wr _ _ | refine wa ?_ | apply awp_join) | (with_reducible refine CallZ.z ?_) | simp -dsimp [go_sem, hll])
    refine awp_loop (fun i : Nat => ⟨[(0, .one (.v (.sl (strRows a)))), (1, .one (.v (.sl (strRows b)))), (5, iV i)], G, []⟩) (fun i => i ≤ a.length ∧ a.take i = b.take i) (fun i => a.length - i) 0 (weak_auto ?_) ⟨Nat.zero_le _, rfl⟩ ?_
    · simp -dsimp [go_sem]
    · rintro i ⟨hi, hx⟩
      simp -dsimp [go_sem]
      refine Cnd.intro (fun h => ?_) (fun h => ?_)
      · have hlt : i < a.length := by simpa using h
        obtain ⟨x, hxa⟩ : ∃ x, a[i]? = some x := ⟨_, List.getElem?_eq_getElem hlt⟩
        obtain ⟨y, hyb⟩ : ∃ y, b[i]? = some y := ⟨_, List.getElem?_eq_getElem (by omega)⟩
        have e4 : IntKind.i64.wrap ((i : Int) + 1) = (i : Int) + 1 := IntWalk.i64_in _ (by omega)
        by_cases hxy : x = y
        · subst hxy
          repeat' (first | (with_reducible first | refine Cn (fun h => ?_) fun h => ?_ | refine And.intro ?_ ?_ | refine wR ?_ | exact wr _ _ | refine wa ?_ | apply awp_join) | (with_reducible refine CallZ.z ?_) | simp -dsimp [go_sem, hxa, hyb, e4])
          all_goals first
            | omega
            | (refine Again.auto (i + 1) ?_ ⟨hlt, take_same hx hxa hyb rfl⟩ ?_
               · simp -dsimp [go_sem]
               · show a.length - (i + 1) < a.length - i; omega)
           
        · have hne : ¬ a = b := fun e => by subst e; rw [hxa] at hyb; exact hxy (Option.some.inj hyb)
          have hd : decide (a = b) = false := by simpa using hne
          repeat' (first | (with_reducible first | refine Cn (fun h => ?_) fun h => ?_ | refine And.intro ?_ ?_ | refine wR ?_ | exact wr _ _ | refine wa ?_ | apply awp_join) | (with_reducible refine CallZ.z ?_) | simp -dsimp [go_sem, hxa, hyb, e4, hxy, hne, hd])
          all_goals first | omega | (simp_all; done)
      · have hge : ¬ i < a.length := by simpa using h
        have hab : a = b := by
          rw [List.take_of_length_le (by omega), List.take_of_length_le (by omega)] at hx
          exact hx
        simp -dsimp [go_sem, hab]
  · have hne : ¬ a = b := fun e => hll (by rw [e])
    have hl' : ((a.length : Int) == b.length) = false := by simp; omega
    repeat' (first | (with_reducible first | refine Cn (fun h => ?_) fun h => ?_ | refine And.intro ?_ ?_ | refine wR ?_ | exact wr _ _ | refine wa ?_ | apply awp_join) | (with_reducible refine CallZ.z ?_) | simp -dsimp [go_sem, hll, hne, hl'])
    all_goals first | (simp_all; done)
theorem sameReply_c (a b : Rep) (hl : a.list.length ≤ 1000) : PCall Tryz.prog G 19 [.agg a.c, .agg b.c] (bV (a.code == b.code && decide (a.text = b.text) && a.n == b.n && decide (a.list = b.list))) := by
  have ht := sameTexts_c (G := G) a.list b.list (by omega)
  unfold Rep.c
  refine pcallc mixed Tryz.func19 ac_rostrumkeep_sameReply ?_
  repeat' (first | (with_reducible first | refine Cn (fun h => ?_) fun h => ?_ | refine And.intro ?_ ?_ | refine wR ?_ | exact wr _ _ | refine wa ?_ | apply awp_join | refine q ht ?_ | refine qd ht ?_ | refine qz ht ?_) | (with_reducible refine CallZ.z ?_) | simp -dsimp [go_sem])
  all_goals first | (simp_all; done)
/-- Pairs and scores, one by one. -/
theorem sameValue_c (a b : Val) (hl : a.Small) : PCall Tryz.prog G 41 [.agg a.c, .agg b.c] (bV (decide (a = b))) := by
  obtain ⟨k, t, n, p, l, s⟩ := a
  obtain ⟨k', t', n', p', l', s'⟩ := b
  obtain ⟨s1, s2, s3⟩ := hl
  simp only at s1 s2 s3
  have ht := sameTexts_c (G := G) l l' (by omega)
  simp only [Val.c]
  by_cases hk : k = k' ∧ t = t' ∧ n = n' ∧ p.length = p'.length ∧ s.length = s'.length ∧ l = l'
  · obtain ⟨rfl, rfl, rfl, h1, h2, rfl⟩ := hk
    have hd : decide (Val.mk k t n p l s = Val.mk k t n p' l s') = (decide (p = p') && decide (s = s')) := by
      by_cases e1 : p = p' <;> by_cases e2 : s = s' <;> simp [e1, e2]
    rw [hd]
    have ht' : PCall Tryz.prog G 35 [.one (.v (.sl (strRows l))), .one (.v (.sl (strRows l)))] (bV true) := by simpa using ht
    refine pcallc mixed Tryz.func41 ac_rostrumkeep_sameValue ?_
    repeat' (first | (with_reducible first | refine Cn (fun h => ?_) fun h => ?_ | refine And.intro ?_ ?_ | refine wR ?_ | exact wr _ _ | refine wa ?_ | apply awp_join | refine q (ht') ?_ | refine qd (ht') ?_ | refine qz (ht') ?_) | (with_reducible refine CallZ.z ?_) | simp -dsimp [go_sem, h1, h2])
    refine awp_loop (fun i : Nat => ⟨[(2, .one (.ptr 0 0)), (3, .one (.ptr 1 0)), (5, iV i)], G, [some (.box 86 [iC k, sC t, iC n, .v (.sl (pR p)), .v (.sl (strRows l)), .v (.sl (sR s))]), some (.box 86 [iC k, sC t, iC n, .v (.sl (pR p')), .v (.sl (strRows l)), .v (.sl (sR s'))])]⟩) (fun i => i ≤ p.length ∧ p.take i = p'.take i) (fun i => p.length - i) 0 (weak_auto ?_) ⟨Nat.zero_le _, rfl⟩ ?_
    · simp -dsimp [go_sem]
    · rintro i ⟨hi, hx⟩
      simp -dsimp [go_sem]
      refine Cnd.intro (fun h => ?_) (fun h => ?_)
      · have hlt : i < p.length := by simpa using h
        obtain ⟨⟨x1, x2⟩, hxa⟩ : ∃ x, p[i]? = some x := ⟨_, List.getElem?_eq_getElem hlt⟩
        obtain ⟨⟨y1, y2⟩, hyb⟩ : ∃ y, p'[i]? = some y := ⟨_, List.getElem?_eq_getElem (by omega)⟩
        have e4 : IntKind.i64.wrap ((i : Int) + 1) = (i : Int) + 1 := IntWalk.i64_in _ (by omega)
        by_cases hxy : (x1, x2) = (y1, y2)
        · obtain ⟨rfl, rfl⟩ := Prod.mk.inj hxy
          repeat' (first | (with_reducible first | refine Cn (fun h => ?_) fun h => ?_ | refine And.intro ?_ ?_ | refine wR ?_ | exact wr _ _ | refine wa ?_ | apply awp_join) | (with_reducible refine CallZ.z ?_) | simp -dsimp [go_sem, hxa, hyb, e4])
          all_goals first
            | omega
            | (refine Again.auto (i + 1) ?_ ⟨hlt, take_same hx hxa hyb rfl⟩ ?_
               · simp -dsimp [go_sem]
               · show p.length - (i + 1) < p.length - i; omega)
           
        · have hne : ¬ p = p' := fun e => by subst e; rw [hxa] at hyb; exact hxy (Option.some.inj hyb)
          have hd : decide (p = p') = false := by simpa using hne
          have hq : (decide (x1 = y1) && decide (x2 = y2)) = false := by
            by_cases e1 : x1 = y1 <;> by_cases e2 : x2 = y2 <;> simp_all
          repeat' (first | (with_reducible first | refine Cn (fun h => ?_) fun h => ?_ | refine And.intro ?_ ?_ | refine wR ?_ | exact wr _ _ | refine wa ?_ | apply awp_join) | (with_reducible refine CallZ.z ?_) | simp -dsimp [go_sem, hxa, hyb, e4, hq, hne, hd])
          all_goals first | omega | (simp_all; done)
      · have hge : ¬ i < p.length := by simpa using h
        have hab : p = p' := by
          rw [List.take_of_length_le (by omega), List.take_of_length_le (by omega)] at hx
          exact hx
        subst hab
        repeat' (first | (with_reducible first | refine Cn (fun h => ?_) fun h => ?_ | refine And.intro ?_ ?_ | refine wR ?_ | exact wr _ _ | refine wa ?_ | apply awp_join) | (with_reducible refine CallZ.z ?_) | simp -dsimp [go_sem])
        refine awp_loop (fun i : Nat => ⟨[(2, .one (.ptr 0 0)), (3, .one (.ptr 1 0)), (6, iV i)], G, [some (.box 86 [iC k, sC t, iC n, .v (.sl (pR p)), .v (.sl (strRows l)), .v (.sl (sR s))]), some (.box 86 [iC k, sC t, iC n, .v (.sl (pR p)), .v (.sl (strRows l)), .v (.sl (sR s'))])]⟩) (fun i => i ≤ s.length ∧ s.take i = s'.take i) (fun i => s.length - i) 0 (weak_auto ?_) ⟨Nat.zero_le _, rfl⟩ ?_
        · simp -dsimp [go_sem]
        · rintro i ⟨hi, hx⟩
          simp -dsimp [go_sem]
          refine Cnd.intro (fun h => ?_) (fun h => ?_)
          · have hlt : i < s.length := by simpa using h
            obtain ⟨⟨x1, x2⟩, hxa⟩ : ∃ x, s[i]? = some x := ⟨_, List.getElem?_eq_getElem hlt⟩
            obtain ⟨⟨y1, y2⟩, hyb⟩ : ∃ y, s'[i]? = some y := ⟨_, List.getElem?_eq_getElem (by omega)⟩
            have e4 : IntKind.i64.wrap ((i : Int) + 1) = (i : Int) + 1 := IntWalk.i64_in _ (by omega)
            by_cases hxy : (x1, x2) = (y1, y2)
            · obtain ⟨rfl, rfl⟩ := Prod.mk.inj hxy
              repeat' (first | (with_reducible first | refine Cn (fun h => ?_) fun h => ?_ | refine And.intro ?_ ?_ | refine wR ?_ | exact wr _ _ | refine wa ?_ | apply awp_join) | (with_reducible refine CallZ.z ?_) | simp -dsimp [go_sem, hxa, hyb, e4])
              all_goals first
                | omega
                | (refine Again.auto (i + 1) ?_ ⟨hlt, take_same hx hxa hyb rfl⟩ ?_
                   · simp -dsimp [go_sem]
                   · show s.length - (i + 1) < s.length - i; omega)
               
            · have hne : ¬ s = s' := fun e => by subst e; rw [hxa] at hyb; exact hxy (Option.some.inj hyb)
              have hd : decide (s = s') = false := by simpa using hne
              have hq : (decide (x1 = y1) && x2 == y2) = false := by
                by_cases e1 : x1 = y1 <;> by_cases e2 : x2 = y2 <;> simp_all
              repeat' (first | (with_reducible first | refine Cn (fun h => ?_) fun h => ?_ | refine And.intro ?_ ?_ | refine wR ?_ | exact wr _ _ | refine wa ?_ | apply awp_join) | (with_reducible refine CallZ.z ?_) | simp -dsimp [go_sem, hxa, hyb, e4, hq, hne, hd])
              all_goals first | omega | (simp_all; done)
          · have hge : ¬ i < s.length := by simpa using h
            have hab : s = s' := by
              rw [List.take_of_length_le (by omega), List.take_of_length_le (by omega)] at hx
              exact hx
            subst hab
            simp -dsimp [go_sem]
  · have hne : ¬ (Val.mk k t n p l s = Val.mk k' t' n' p' l' s') := fun e => by cases e; exact hk ⟨rfl, rfl, rfl, rfl, rfl, rfl⟩
    have hd : decide (Val.mk k t n p l s = Val.mk k' t' n' p' l' s') = false := by simpa using hne
    rw [hd]
    refine pcallc mixed Tryz.func41 ac_rostrumkeep_sameValue ?_
    repeat' (first | (with_reducible first | refine Cn (fun h => ?_) fun h => ?_ | refine And.intro ?_ ?_ | refine wR ?_ | exact wr _ _ | refine wa ?_ | apply awp_join | refine q ht ?_ | refine qd ht ?_ | refine qz ht ?_) | (with_reducible refine CallZ.z ?_) | simp -dsimp [go_sem])
    all_goals (exfalso; clear ht hd hne; apply hk; clear hk; refine ⟨?_, ?_, ?_, ?_, ?_, ?_⟩ <;> first | (simp_all; done) | (simp_all; omega))
end Go.Proofs.YtmaiphnabebplaaGreatDoor
