/- What copying a value, and telling all its elements, answer. -/
import Derived.Test.YtcfpphadlgbfdaaJ7
set_option linter.unusedVariables false
set_option linter.unusedSimpArgs false
set_option maxRecDepth 100000
set_option maxHeartbeats 8000000
namespace Go.Proofs.Ytcfpphadlgbfdaa
open Go Go.RowKit Go.Proofs.AE
variable {G : Nat → AV}
theorem clone_api_Pair (rows : List (List V)) (hu : UL 2 rows) (hx : rows.length ≤ 1000000) : PCall Try.prog G 37 [.one (.v (.sl rows))] (.one (.v (.sl rows))) := by
  refine pcallc mixed Try.func37 ac_slices_Clone_api_Pair ?_
  repeat' (first | (with_reducible first | refine Cn (fun h => ?_) fun h => ?_ | refine And.intro ?_ ?_ | refine wR ?_ | exact wr _ _ | refine wa ?_ | apply awp_join | refine q (cases q) ?_ | refine qd (cases q) ?_ | refine qz (cases q) ?_) | (intro q hq) | (with_reducible refine CallZ.z ?_) | simp -dsimp [go_sem])
  all_goals first | omega | exact hu | exact hu _ ‹_› | simp_all
theorem cloneG_api_Pair (rows : List (List V)) (hu : UL 2 rows) (hx : rows.length ≤ 1000000) : DetCall Try.prog G 37 0 [] [.one (.v (.sl rows))] (.one (.ar 0)) [some (.arr 43 2 rows)] := by
  refine gcallc mixed Try.func37 ac_slices_Clone_api_Pair ?_
  repeat' (first | (with_reducible first | refine Cn (fun h => ?_) fun h => ?_ | refine And.intro ?_ ?_ | refine wR ?_ | exact wr _ _ | refine wa ?_ | apply awp_join | refine q (cases q) ?_ | refine qd (cases q) ?_ | refine qz (cases q) ?_) | (intro q hq) | (with_reducible refine CallZ.z ?_) | simp -dsimp [go_sem])
  all_goals first | omega | exact hu | exact hu _ ‹_› | simp_all
theorem clone_api_Score (rows : List (List V)) (hu : UL 2 rows) (hx : rows.length ≤ 1000000) : PCall Try.prog G 39 [.one (.v (.sl rows))] (.one (.v (.sl rows))) := by
  refine pcallc mixed Try.func39 ac_slices_Clone_api_Score ?_
  repeat' (first | (with_reducible first | refine Cn (fun h => ?_) fun h => ?_ | refine And.intro ?_ ?_ | refine wR ?_ | exact wr _ _ | refine wa ?_ | apply awp_join | refine q (cases q) ?_ | refine qd (cases q) ?_ | refine qz (cases q) ?_) | (intro q hq) | (with_reducible refine CallZ.z ?_) | simp -dsimp [go_sem])
  all_goals first | omega | exact hu | exact hu _ ‹_› | simp_all
theorem cloneG_api_Score (rows : List (List V)) (hu : UL 2 rows) (hx : rows.length ≤ 1000000) : DetCall Try.prog G 39 0 [] [.one (.v (.sl rows))] (.one (.ar 0)) [some (.arr 65 2 rows)] := by
  refine gcallc mixed Try.func39 ac_slices_Clone_api_Score ?_
  repeat' (first | (with_reducible first | refine Cn (fun h => ?_) fun h => ?_ | refine And.intro ?_ ?_ | refine wR ?_ | exact wr _ _ | refine wa ?_ | apply awp_join | refine q (cases q) ?_ | refine qd (cases q) ?_ | refine qz (cases q) ?_) | (intro q hq) | (with_reducible refine CallZ.z ?_) | simp -dsimp [go_sem])
  all_goals first | omega | exact hu | exact hu _ ‹_› | simp_all
theorem clone_string (rows : List (List V)) (hu : UL 1 rows) (hx : rows.length ≤ 1000000) : PCall Try.prog G 38 [.one (.v (.sl rows))] (.one (.v (.sl rows))) := by
  refine pcallc mixed Try.func38 ac_slices_Clone_string ?_
  repeat' (first | (with_reducible first | refine Cn (fun h => ?_) fun h => ?_ | refine And.intro ?_ ?_ | refine wR ?_ | exact wr _ _ | refine wa ?_ | apply awp_join | refine q (cases q) ?_ | refine qd (cases q) ?_ | refine qz (cases q) ?_) | (intro q hq) | (with_reducible refine CallZ.z ?_) | simp -dsimp [go_sem])
  all_goals first | omega | exact hu | exact hu _ ‹_› | simp_all
theorem cloneG_string (rows : List (List V)) (hu : UL 1 rows) (hx : rows.length ≤ 1000000) : DetCall Try.prog G 38 0 [] [.one (.v (.sl rows))] (.one (.ar 0)) [some (.arr 9 1 rows)] := by
  refine gcallc mixed Try.func38 ac_slices_Clone_string ?_
  repeat' (first | (with_reducible first | refine Cn (fun h => ?_) fun h => ?_ | refine And.intro ?_ ?_ | refine wR ?_ | exact wr _ _ | refine wa ?_ | apply awp_join | refine q (cases q) ?_ | refine qd (cases q) ?_ | refine qz (cases q) ?_) | (intro q hq) | (with_reducible refine CallZ.z ?_) | simp -dsimp [go_sem])
  all_goals first | omega | exact hu | exact hu _ ‹_› | simp_all
theorem own_c (k n : Int) (t : ByteArray) (p i s : List (List V)) (hp : UL 2 p) (hi : UL 1 i) (hs : UL 2 s) (h1 : p.length ≤ 1000000) (h2 : i.length ≤ 1000000) (h3 : s.length ≤ 1000000) :
    PCall Try.prog G 15 [.agg [iC k, sC t, iC n, .v (.sl p), .v (.sl i), .v (.sl s)]] (.agg [iC k, sC t, iC n, .v (.sl p), .v (.sl i), .v (.sl s)]) := by
  have c1 := clone_api_Pair (G := G) p hp h1
  have c2 := clone_string (G := G) i hi h2
  have c3 := clone_api_Score (G := G) s hs h3
  refine pcallc mixed Try.func15 ac_value_own ?_
  repeat' (first | (with_reducible first | refine Cn (fun h => ?_) fun h => ?_ | refine And.intro ?_ ?_ | refine wR ?_ | exact wr _ _ | refine wa ?_ | apply awp_join | refine q c1 ?_ | refine qd c1 ?_ | refine qz c1 ?_ | refine q c2 ?_ | refine qd c2 ?_ | refine qz c2 ?_ | refine q c3 ?_ | refine qd c3 ?_ | refine qz c3 ?_) | (with_reducible refine CallZ.z ?_) | simp -dsimp [go_sem])
theorem own_g (k n : Int) (t : ByteArray) (p i s : List (List V)) (hp : UL 2 p) (hi : UL 1 i) (hs : UL 2 s) (h1 : p.length ≤ 1000000) (h2 : i.length ≤ 1000000) (h3 : s.length ≤ 1000000) :
    DetCall Try.prog G 15 0 [] [.agg [iC k, sC t, iC n, .v (.sl p), .v (.sl i), .v (.sl s)]] (.agg [iC k, sC t, iC n, .ar 0, .ar 1, .ar 2]) [some (.arr 43 2 p), some (.arr 9 1 i), some (.arr 65 2 s)] := by
  have c1 := cloneG_api_Pair (G := G) p hp h1
  have c2 := cloneG_string (G := G) i hi h2
  have c3 := cloneG_api_Score (G := G) s hs h3
  refine gcallc mixed Try.func15 ac_value_own ?_
  repeat' (first | (with_reducible first | refine Cn (fun h => ?_) fun h => ?_ | refine And.intro ?_ ?_ | refine wR ?_ | exact wr _ _ | refine wa ?_ | apply awp_join | refine qg c1 ?_ | refine qgd c1 ?_ | refine qg c2 ?_ | refine qgd c2 ?_ | refine qg c3 ?_ | refine qgd c3 ?_) | (with_reducible refine CallZ.z ?_) | simp -dsimp [go_sem])
def allV (v : Val) : List ByteArray := v.items ++ v.pairs.map (·.1) ++ v.scores.map (·.1)
def accR {α : Type} (l : List ByteArray) (f : α → ByteArray) (p : List α) (i : Nat) : List (List V) := strRows (l ++ (p.take i).map f)
theorem accR_zero {α : Type} (l : List ByteArray) (f : α → ByteArray) (p : List α) : accR l f p 0 = strRows l := by simp [accR]
theorem accR_all {α : Type} (l : List ByteArray) (f : α → ByteArray) (p : List α) : accR l f p p.length = strRows (l ++ p.map f) := by simp [accR]
theorem accR_succ {α : Type} (l : List ByteArray) (f : α → ByteArray) (p : List α) {i : Nat} {a : α} (h : p[i]? = some a) : accR l f p (i + 1) = accR l f p i ++ [[V.lit (.string (f a))]] := by
  have htk : p.take (i + 1) = p.take i ++ [a] := by rw [List.take_add_one, h]; rfl
  unfold accR
  rw [htk]
  simp
theorem accR_len {α : Type} (l : List ByteArray) (f : α → ByteArray) (p : List α) {i : Nat} (h : i ≤ p.length) : (accR l f p i).length = l.length + i := by
  unfold accR
  simp
  omega
theorem all_c (v : Val) (hs : v.Small) : PCall Try.prog G 41 [.agg v.c] (.one (.v (.sl (strRows (allV v))))) := by
  obtain ⟨k, t, n, p, l, s⟩ := v
  obtain ⟨s1, s2, s3⟩ := hs
  simp only at s1 s2 s3
  have c2 := cloneG_string (G := G) (strRows l) (ul_i l) (by simp; omega)
  unfold Val.c allV
  simp only
  refine pcallc mixed Try.func41 ac_value_all ?_
  repeat' (first | (with_reducible first | refine Cn (fun h => ?_) fun h => ?_ | refine And.intro ?_ ?_ | refine wR ?_ | exact wr _ _ | refine wa ?_ | apply awp_join | refine qg c2 ?_ | refine qgd c2 ?_) | (with_reducible refine CallZ.z ?_) | simp -dsimp [go_sem])
  refine awp_loop (fun i : Nat => ⟨[(1, .one (.ptr 0 0)), (3, .one (.ar 1)), (12, .one (.v (.sl (pR p)))), (13, iV p.length), (14, iV i)], G, [some (.box 27 [iC k, sC t, iC n, .v (.sl (pR p)), .v (.sl (strRows l)), .v (.sl (sR s))]), some (.arr 9 1 (accR l Prod.fst p i))]⟩) (fun i => i ≤ p.length) (fun i => p.length - i) 0 (weak_auto ?_) (Nat.zero_le _) ?_
  · simp -dsimp [go_sem, accR_zero]
  · intro i hi
    have hal := accR_len l Prod.fst p hi
    simp -dsimp [go_sem]
    refine Cnd.intro (fun h => ?_) (fun h => ?_)
    · have hlt : i < p.length := by simpa using h
      obtain ⟨a, ha⟩ : ∃ a, p[i]? = some a := ⟨_, List.getElem?_eq_getElem hlt⟩
      have w1 : IntKind.i64.wrap ((i : Int) + 1) = (i : Int) + 1 := IntWalk.i64_in _ (by omega)
      have hut := ul_i [a.1]
      have htk := accR_succ l Prod.fst p ha
      repeat' (first | (with_reducible first | refine Cn (fun h => ?_) fun h => ?_ | refine And.intro ?_ ?_ | refine wR ?_ | exact wr _ _ | refine wa ?_ | apply awp_join) | (with_reducible refine CallZ.z ?_) | simp -dsimp [go_sem, ha, w1, hal])
      all_goals first
        | omega
        | assumption
        | (refine Again.auto (i + 1) ?_ ?_ ?_
           · simp -dsimp [go_sem, htk]
           · exact hlt
           · show p.length - (i + 1) < p.length - i; omega)
    · have hge : ¬ i < p.length := by simpa using h
      have hie : i = p.length := by omega
      subst hie
      have hfin := accR_all l Prod.fst p
      rw [hfin]
      repeat' (first | (with_reducible first | refine Cn (fun h => ?_) fun h => ?_ | refine And.intro ?_ ?_ | refine wR ?_ | exact wr _ _ | refine wa ?_ | apply awp_join) | (with_reducible refine CallZ.z ?_) | simp -dsimp [go_sem])
      refine awp_loop (fun i : Nat => ⟨[(1, .one (.ptr 0 0)), (3, .one (.ar 1)), (25, .one (.v (.sl (sR s)))), (26, iV s.length), (27, iV i)], G, [some (.box 27 [iC k, sC t, iC n, .v (.sl (pR p)), .v (.sl (strRows l)), .v (.sl (sR s))]), some (.arr 9 1 (accR (l ++ p.map Prod.fst) Prod.fst s i))]⟩) (fun i => i ≤ s.length) (fun i => s.length - i) 0 (weak_auto ?_) (Nat.zero_le _) ?_
      · simp -dsimp [go_sem, accR_zero]
      · intro i hi
        have hal := accR_len (l ++ p.map Prod.fst) Prod.fst s hi
        simp at hal
        simp -dsimp [go_sem]
        refine Cnd.intro (fun h => ?_) (fun h => ?_)
        · have hlt : i < s.length := by simpa using h
          obtain ⟨a, ha⟩ : ∃ a, s[i]? = some a := ⟨_, List.getElem?_eq_getElem hlt⟩
          have w1 : IntKind.i64.wrap ((i : Int) + 1) = (i : Int) + 1 := IntWalk.i64_in _ (by omega)
          have hut := ul_i [a.1]
          have htk := accR_succ (l ++ p.map Prod.fst) Prod.fst s ha
          repeat' (first | (with_reducible first | refine Cn (fun h => ?_) fun h => ?_ | refine And.intro ?_ ?_ | refine wR ?_ | exact wr _ _ | refine wa ?_ | apply awp_join) | (with_reducible refine CallZ.z ?_) | simp -dsimp [go_sem, ha, w1, hal])
          all_goals first
            | omega
            | assumption
            | (refine Again.auto (i + 1) ?_ ?_ ?_
               · simp -dsimp [go_sem, htk]
               · exact hlt
               · show s.length - (i + 1) < s.length - i; omega)
        · have hge : ¬ i < s.length := by simpa using h
          have hie : i = s.length := by omega
          subst hie
          have hfin := accR_all (l ++ p.map Prod.fst) Prod.fst s
          rw [hfin]
          repeat' (first | (with_reducible first | refine Cn (fun h => ?_) fun h => ?_ | refine And.intro ?_ ?_ | refine wR ?_ | exact wr _ _ | refine wa ?_ | apply awp_join) | (with_reducible refine CallZ.z ?_) | simp -dsimp [go_sem])
end Go.Proofs.Ytcfpphadlgbfdaa
