/- Texts joined: J3b J3c J10 J11 J11z J12 J9b J13 J12b D E W. -/
import Derived.Test.YtpdcfljbabpakaaPk1
import Derived.Test.YtpdcfljbabpakaaAeRead
/- What Check answers of a value of the last kinds. -/
set_option linter.unusedVariables false
set_option linter.unusedSimpArgs false
set_option maxRecDepth 100000
set_option maxHeartbeats 8000000
namespace Go.Proofs.Ytpdcfljbabpakaa
open Go Go.RowKit Go.Proofs.AE
variable {G : Nat → AV}
theorem checkK4_c (v : Val) (hs : v.Small) (hk : v.kind = 4) : PCall Try.prog G 51 [.agg v.c] (iV (checkV v)) := by
  obtain ⟨k, t, n, p, l, s⟩ := v
  obtain ⟨s1, s2, s3⟩ := hs
  simp only at hk s1 s2 s3
  subst hk
  obtain ⟨b1, hb1⟩ : ∃ b, l.any longS = b := ⟨_, rfl⟩
  obtain ⟨b2, hb2⟩ : ∃ b, p.any badP = b := ⟨_, rfl⟩
  obtain ⟨b3, hb3⟩ : ∃ b, s.any longM = b := ⟨_, rfl⟩
  obtain ⟨b4, hb4⟩ : ∃ b, s.any farN = b := ⟨_, rfl⟩
  obtain ⟨b5, hb5⟩ : ∃ b, rising bF p = b := ⟨_, rfl⟩
  obtain ⟨b6, hb6⟩ : ∃ b, rising bS s = b := ⟨_, rfl⟩
  obtain ⟨b7, hb7⟩ : ∃ b, rising cmpB l = b := ⟨_, rfl⟩
  obtain ⟨b8, hb8⟩ : ∃ b, okText t = b := ⟨_, rfl⟩
  obtain ⟨b9, hb9⟩ : ∃ b, okCount n = b := ⟨_, rfl⟩
  obtain ⟨d, hd⟩ : ∃ b, (n != 0) = b := ⟨_, rfl⟩
  obtain ⟨d1, hd1⟩ : ∃ b, decide (t = ⟨#[]⟩) = b := ⟨_, rfl⟩
  have hC : checkV ⟨4, t, n, p, l, s⟩ = if ((4 != 1 && !d1) || (4 != 2 && d) || decide (0 < (if (4 : Int) = 3 then 0 else (p.length : Int)) + (if (4 : Int) = 4 ∨ (4 : Int) = 5 then 0 else (l.length : Int)) + (if (4 : Int) = 6 then 0 else (s.length : Int)))) = true then 8
      else if 3 ≤ (4 : Int) ∧ ((p.length : Int) + l.length + s.length < 1 ∨ 20 < (p.length : Int) + l.length + s.length) then 1 else if (!b8 || b1) = true then 1 else if b2 = true then 1 else if b3 = true then 1 else if (!b9 || b4) = true then 2
      else if ((b5 && b6 && (decide ((4 : Int) ≠ 5) || b7)) && onceB s s.length) = true then 0 else 10 := by
    simp only [checkV, Val.bad, Val.els, Val.order, Val.ord, hb1, hb2, hb3, hb4, hb5, hb6, hb7, hb8, hb9, ← hd, ← hd1]
    rw [if_neg (by decide), if_neg (by decide)]
    simp
  rw [hC]
  clear hC
  refine pcallc mixed Try.func51 ac_value_Check ?_
  unfold Val.c
  repeat' (first | (with_reducible first | refine Cn (fun h => ?_) fun h => ?_ | refine And.intro ?_ ?_ | refine wR ?_ | exact wr _ _ | refine wa ?_ | apply awp_join | refine q1 (by exact elements_c _ _ _ _ _ _ (by simp; omega)) ?_ | refine q1d (by exact elements_c _ _ _ _ _ _ (by simp; omega)) ?_ | refine q1 (by exact elements_c 4 n t [] (strRows l) (sR s) (by simp; omega)) ?_ | refine q1d (by exact elements_c 4 n t [] (strRows l) (sR s) (by simp; omega)) ?_ | refine q (elements_c 4 n t [] (strRows l) (sR s) (by simp; omega)) ?_ | refine qd (elements_c 4 n t [] (strRows l) (sR s) (by simp; omega)) ?_ | refine qz (elements_c 4 n t [] (strRows l) (sR s) (by simp; omega)) ?_ | refine q1 (by exact elements_c 4 n t (pR p) [] (sR s) (by simp; omega)) ?_ | refine q1d (by exact elements_c 4 n t (pR p) [] (sR s) (by simp; omega)) ?_ | refine q (elements_c 4 n t (pR p) [] (sR s) (by simp; omega)) ?_ | refine qd (elements_c 4 n t (pR p) [] (sR s) (by simp; omega)) ?_ | refine qz (elements_c 4 n t (pR p) [] (sR s) (by simp; omega)) ?_ | refine q1 (by exact elements_c 4 n t (pR p) (strRows l) [] (by simp; omega)) ?_ | refine q1d (by exact elements_c 4 n t (pR p) (strRows l) [] (by simp; omega)) ?_ | refine q (elements_c 4 n t (pR p) (strRows l) [] (by simp; omega)) ?_ | refine qd (elements_c 4 n t (pR p) (strRows l) [] (by simp; omega)) ?_ | refine qz (elements_c 4 n t (pR p) (strRows l) [] (by simp; omega)) ?_ | refine q (text_c _) ?_ | refine qd (text_c _) ?_ | refine qz (text_c _) ?_ | refine q1 (by exact containsFunc_c _ longS _ (by omega) en61 checkFn1_c) ?_ | refine q1d (by exact containsFunc_c _ longS _ (by omega) en61 checkFn1_c) ?_ | refine q1 (by exact containsFunc_api_Pair _ badP _ (by omega) en63 checkFn2_c) ?_ | refine q1d (by exact containsFunc_api_Pair _ badP _ (by omega) en63 checkFn2_c) ?_ | refine q1 (by exact containsFunc_api_Score _ longM _ (by omega) en66 checkFn3_c) ?_ | refine q1d (by exact containsFunc_api_Score _ longM _ (by omega) en66 checkFn3_c) ?_ | refine q (count_c _) ?_ | refine qd (count_c _) ?_ | refine qz (count_c _) ?_ | refine q1 (by exact containsFunc_api_Score _ farN _ (by omega) en68 checkFn4_c) ?_ | refine q1d (by exact containsFunc_api_Score _ farN _ (by omega) en68 checkFn4_c) ?_ | refine q1 (by exact rising_api_Pair _ bF _ (by omega) en70 byField_c) ?_ | refine q1d (by exact rising_api_Pair _ bF _ (by omega) en70 byField_c) ?_ | refine q1 (by exact rising_api_Score _ bS _ (by omega) en72 byScore_c) ?_ | refine q1d (by exact rising_api_Score _ bS _ (by omega) en72 byScore_c) ?_ | refine q1 (by exact rising_string _ cmpB _ (by omega) en74 stringsCompare_c) ?_ | refine q1d (by exact rising_string _ cmpB _ (by omega) en74 stringsCompare_c) ?_) | (with_reducible refine CallZ.z ?_) | simp -dsimp [go_sem, hb1, hb2, hb3, hb4, hb5, hb6, hb7, hb8, hb9, hd, hd1])
  all_goals first
    | (refine awp_loop (fun i : Nat => ⟨[(1, .one (.ptr 0 0)), (4, bV ((b5 && b6 && (decide ((4 : Int) ≠ 5) || b7)) && onceB s i)), (100, .one (.v (.sl (sR s)))), (101, iV s.length), (102, iV i)], G, [some (.box 77 (Val.mk 4 t n p l s).c)]⟩) (fun i => i ≤ s.length) (fun i => s.length - i) 0 (weak_auto ?_) (Nat.zero_le _) ?_
       · clear hb1 hb2 hb3 hb4 hb5 hb6 hb7 hb8 hb9 hd hd1
         simp_all -dsimp [go_sem, onceB, Val.c]
       · intro i hi
         have hul := ul_s s
         simp -dsimp [go_sem, Val.c]
         refine Cnd.intro (fun h => ?_) (fun h => ?_)
         · have hlt : i < s.length := by simpa using h
           obtain ⟨a, ha⟩ : ∃ a, s[i] = a := ⟨_, rfl⟩
           have hgi : s[i]? = some a := by rw [List.getElem?_eq_getElem hlt, ha]
           have w1 : IntKind.i64.wrap ((i : Int) + 1) = (i : Int) + 1 := IntWalk.i64_in _ (by omega)
           have hon := onceB_succ s hgi
           obtain ⟨o1, ho1⟩ : ∃ b, onceB s i = b := ⟨_, rfl⟩
           rw [ho1] at hon ⊢
           repeat' (first | (with_reducible first | refine Cn (fun h => ?_) fun h => ?_ | refine And.intro ?_ ?_ | refine wR ?_ | exact wr _ _ | refine wa ?_ | apply awp_join | refine q1 (by exact rank_c _ _ (by simp; omega)) ?_ | refine q1d (by exact rank_c _ _ (by simp; omega)) ?_) | (with_reducible refine CallZ.z ?_) | simp -dsimp [go_sem, hgi, w1, ← List.map_take])
           all_goals first
             | omega
             | assumption
             | (with_reducible refine Again.auto (i + 1) ?_ ?_ ?_)
           all_goals first
             | exact hlt
             | (show s.length - (i + 1) < s.length - i; omega)
             | (rw [hon]; clear hb1 hb2 hb3 hb4 hb5 hb6 hb7 hb8 hb9 hd hd1 hon; simp_all -dsimp [go_sem, Val.c]; done)
         · have hge : ¬ i < s.length := by simpa using h
           have : i = s.length := by omega
           subst this
           repeat' (first | (with_reducible first | refine Cn (fun h => ?_) fun h => ?_ | refine And.intro ?_ ?_ | refine wR ?_ | exact wr _ _ | refine wa ?_ | apply awp_join) | (with_reducible refine CallZ.z ?_) | simp -dsimp [go_sem])
           all_goals (clear hb1 hb2 hb3 hb4 hb5 hb6 hb7 hb8 hb9 hd hd1; (try simp_all); try first | omega | ((repeat' split) <;> first | rfl | omega | (exfalso; simp_all; done))))
    | (clear hb1 hb2 hb3 hb4 hb5 hb6 hb7 hb8 hb9 hd hd1; simp_all; done)
    | (clear hb1 hb2 hb3 hb4 hb5 hb6 hb7 hb8 hb9 hd hd1; simp_all; omega)
    | (clear hb1 hb2 hb3 hb4 hb5 hb6 hb7 hb8 hb9 hd hd1; simp_all; (try intros); (repeat' split) <;> first | rfl | omega | (simp_all; done) | (simp_all; omega))
theorem checkK5_c (v : Val) (hs : v.Small) (hk : v.kind = 5) : PCall Try.prog G 51 [.agg v.c] (iV (checkV v)) := by
  obtain ⟨k, t, n, p, l, s⟩ := v
  obtain ⟨s1, s2, s3⟩ := hs
  simp only at hk s1 s2 s3
  subst hk
  obtain ⟨b1, hb1⟩ : ∃ b, l.any longS = b := ⟨_, rfl⟩
  obtain ⟨b2, hb2⟩ : ∃ b, p.any badP = b := ⟨_, rfl⟩
  obtain ⟨b3, hb3⟩ : ∃ b, s.any longM = b := ⟨_, rfl⟩
  obtain ⟨b4, hb4⟩ : ∃ b, s.any farN = b := ⟨_, rfl⟩
  obtain ⟨b5, hb5⟩ : ∃ b, rising bF p = b := ⟨_, rfl⟩
  obtain ⟨b6, hb6⟩ : ∃ b, rising bS s = b := ⟨_, rfl⟩
  obtain ⟨b7, hb7⟩ : ∃ b, rising cmpB l = b := ⟨_, rfl⟩
  obtain ⟨b8, hb8⟩ : ∃ b, okText t = b := ⟨_, rfl⟩
  obtain ⟨b9, hb9⟩ : ∃ b, okCount n = b := ⟨_, rfl⟩
  obtain ⟨d, hd⟩ : ∃ b, (n != 0) = b := ⟨_, rfl⟩
  obtain ⟨d1, hd1⟩ : ∃ b, decide (t = ⟨#[]⟩) = b := ⟨_, rfl⟩
  have hC : checkV ⟨5, t, n, p, l, s⟩ = if ((5 != 1 && !d1) || (5 != 2 && d) || decide (0 < (if (5 : Int) = 3 then 0 else (p.length : Int)) + (if (5 : Int) = 4 ∨ (5 : Int) = 5 then 0 else (l.length : Int)) + (if (5 : Int) = 6 then 0 else (s.length : Int)))) = true then 8
      else if 3 ≤ (5 : Int) ∧ ((p.length : Int) + l.length + s.length < 1 ∨ 20 < (p.length : Int) + l.length + s.length) then 1 else if (!b8 || b1) = true then 1 else if b2 = true then 1 else if b3 = true then 1 else if (!b9 || b4) = true then 2
      else if ((b5 && b6 && (decide ((5 : Int) ≠ 5) || b7)) && onceB s s.length) = true then 0 else 10 := by
    simp only [checkV, Val.bad, Val.els, Val.order, Val.ord, hb1, hb2, hb3, hb4, hb5, hb6, hb7, hb8, hb9, ← hd, ← hd1]
    rw [if_neg (by decide), if_neg (by decide)]
    simp
  rw [hC]
  clear hC
  refine pcallc mixed Try.func51 ac_value_Check ?_
  unfold Val.c
  repeat' (first | (with_reducible first | refine Cn (fun h => ?_) fun h => ?_ | refine And.intro ?_ ?_ | refine wR ?_ | exact wr _ _ | refine wa ?_ | apply awp_join | refine q1 (by exact elements_c _ _ _ _ _ _ (by simp; omega)) ?_ | refine q1d (by exact elements_c _ _ _ _ _ _ (by simp; omega)) ?_ | refine q1 (by exact elements_c 5 n t [] (strRows l) (sR s) (by simp; omega)) ?_ | refine q1d (by exact elements_c 5 n t [] (strRows l) (sR s) (by simp; omega)) ?_ | refine q (elements_c 5 n t [] (strRows l) (sR s) (by simp; omega)) ?_ | refine qd (elements_c 5 n t [] (strRows l) (sR s) (by simp; omega)) ?_ | refine qz (elements_c 5 n t [] (strRows l) (sR s) (by simp; omega)) ?_ | refine q1 (by exact elements_c 5 n t (pR p) [] (sR s) (by simp; omega)) ?_ | refine q1d (by exact elements_c 5 n t (pR p) [] (sR s) (by simp; omega)) ?_ | refine q (elements_c 5 n t (pR p) [] (sR s) (by simp; omega)) ?_ | refine qd (elements_c 5 n t (pR p) [] (sR s) (by simp; omega)) ?_ | refine qz (elements_c 5 n t (pR p) [] (sR s) (by simp; omega)) ?_ | refine q1 (by exact elements_c 5 n t (pR p) (strRows l) [] (by simp; omega)) ?_ | refine q1d (by exact elements_c 5 n t (pR p) (strRows l) [] (by simp; omega)) ?_ | refine q (elements_c 5 n t (pR p) (strRows l) [] (by simp; omega)) ?_ | refine qd (elements_c 5 n t (pR p) (strRows l) [] (by simp; omega)) ?_ | refine qz (elements_c 5 n t (pR p) (strRows l) [] (by simp; omega)) ?_ | refine q (text_c _) ?_ | refine qd (text_c _) ?_ | refine qz (text_c _) ?_ | refine q1 (by exact containsFunc_c _ longS _ (by omega) en61 checkFn1_c) ?_ | refine q1d (by exact containsFunc_c _ longS _ (by omega) en61 checkFn1_c) ?_ | refine q1 (by exact containsFunc_api_Pair _ badP _ (by omega) en63 checkFn2_c) ?_ | refine q1d (by exact containsFunc_api_Pair _ badP _ (by omega) en63 checkFn2_c) ?_ | refine q1 (by exact containsFunc_api_Score _ longM _ (by omega) en66 checkFn3_c) ?_ | refine q1d (by exact containsFunc_api_Score _ longM _ (by omega) en66 checkFn3_c) ?_ | refine q (count_c _) ?_ | refine qd (count_c _) ?_ | refine qz (count_c _) ?_ | refine q1 (by exact containsFunc_api_Score _ farN _ (by omega) en68 checkFn4_c) ?_ | refine q1d (by exact containsFunc_api_Score _ farN _ (by omega) en68 checkFn4_c) ?_ | refine q1 (by exact rising_api_Pair _ bF _ (by omega) en70 byField_c) ?_ | refine q1d (by exact rising_api_Pair _ bF _ (by omega) en70 byField_c) ?_ | refine q1 (by exact rising_api_Score _ bS _ (by omega) en72 byScore_c) ?_ | refine q1d (by exact rising_api_Score _ bS _ (by omega) en72 byScore_c) ?_ | refine q1 (by exact rising_string _ cmpB _ (by omega) en74 stringsCompare_c) ?_ | refine q1d (by exact rising_string _ cmpB _ (by omega) en74 stringsCompare_c) ?_) | (with_reducible refine CallZ.z ?_) | simp -dsimp [go_sem, hb1, hb2, hb3, hb4, hb5, hb6, hb7, hb8, hb9, hd, hd1])
  all_goals first
    | (refine awp_loop (fun i : Nat => ⟨[(1, .one (.ptr 0 0)), (4, bV ((b5 && b6 && (decide ((5 : Int) ≠ 5) || b7)) && onceB s i)), (100, .one (.v (.sl (sR s)))), (101, iV s.length), (102, iV i)], G, [some (.box 77 (Val.mk 5 t n p l s).c)]⟩) (fun i => i ≤ s.length) (fun i => s.length - i) 0 (weak_auto ?_) (Nat.zero_le _) ?_
       · clear hb1 hb2 hb3 hb4 hb5 hb6 hb7 hb8 hb9 hd hd1
         simp_all -dsimp [go_sem, onceB, Val.c]
       · intro i hi
         have hul := ul_s s
         simp -dsimp [go_sem, Val.c]
         refine Cnd.intro (fun h => ?_) (fun h => ?_)
         · have hlt : i < s.length := by simpa using h
           obtain ⟨a, ha⟩ : ∃ a, s[i] = a := ⟨_, rfl⟩
           have hgi : s[i]? = some a := by rw [List.getElem?_eq_getElem hlt, ha]
           have w1 : IntKind.i64.wrap ((i : Int) + 1) = (i : Int) + 1 := IntWalk.i64_in _ (by omega)
           have hon := onceB_succ s hgi
           obtain ⟨o1, ho1⟩ : ∃ b, onceB s i = b := ⟨_, rfl⟩
           rw [ho1] at hon ⊢
           repeat' (first | (with_reducible first | refine Cn (fun h => ?_) fun h => ?_ | refine And.intro ?_ ?_ | refine wR ?_ | exact wr _ _ | refine wa ?_ | apply awp_join | refine q1 (by exact rank_c _ _ (by simp; omega)) ?_ | refine q1d (by exact rank_c _ _ (by simp; omega)) ?_) | (with_reducible refine CallZ.z ?_) | simp -dsimp [go_sem, hgi, w1, ← List.map_take])
           all_goals first
             | omega
             | assumption
             | (with_reducible refine Again.auto (i + 1) ?_ ?_ ?_)
           all_goals first
             | exact hlt
             | (show s.length - (i + 1) < s.length - i; omega)
             | (rw [hon]; clear hb1 hb2 hb3 hb4 hb5 hb6 hb7 hb8 hb9 hd hd1 hon; simp_all -dsimp [go_sem, Val.c]; done)
         · have hge : ¬ i < s.length := by simpa using h
           have : i = s.length := by omega
           subst this
           repeat' (first | (with_reducible first | refine Cn (fun h => ?_) fun h => ?_ | refine And.intro ?_ ?_ | refine wR ?_ | exact wr _ _ | refine wa ?_ | apply awp_join) | (with_reducible refine CallZ.z ?_) | simp -dsimp [go_sem])
           all_goals (clear hb1 hb2 hb3 hb4 hb5 hb6 hb7 hb8 hb9 hd hd1; (try simp_all); try first | omega | ((repeat' split) <;> first | rfl | omega | (exfalso; simp_all; done))))
    | (clear hb1 hb2 hb3 hb4 hb5 hb6 hb7 hb8 hb9 hd hd1; simp_all; done)
    | (clear hb1 hb2 hb3 hb4 hb5 hb6 hb7 hb8 hb9 hd hd1; simp_all; omega)
    | (clear hb1 hb2 hb3 hb4 hb5 hb6 hb7 hb8 hb9 hd hd1; simp_all; (try intros); (repeat' split) <;> first | rfl | omega | (simp_all; done) | (simp_all; omega))
theorem checkK6_c (v : Val) (hs : v.Small) (hk : v.kind = 6) : PCall Try.prog G 51 [.agg v.c] (iV (checkV v)) := by
  obtain ⟨k, t, n, p, l, s⟩ := v
  obtain ⟨s1, s2, s3⟩ := hs
  simp only at hk s1 s2 s3
  subst hk
  obtain ⟨b1, hb1⟩ : ∃ b, l.any longS = b := ⟨_, rfl⟩
  obtain ⟨b2, hb2⟩ : ∃ b, p.any badP = b := ⟨_, rfl⟩
  obtain ⟨b3, hb3⟩ : ∃ b, s.any longM = b := ⟨_, rfl⟩
  obtain ⟨b4, hb4⟩ : ∃ b, s.any farN = b := ⟨_, rfl⟩
  obtain ⟨b5, hb5⟩ : ∃ b, rising bF p = b := ⟨_, rfl⟩
  obtain ⟨b6, hb6⟩ : ∃ b, rising bS s = b := ⟨_, rfl⟩
  obtain ⟨b7, hb7⟩ : ∃ b, rising cmpB l = b := ⟨_, rfl⟩
  obtain ⟨b8, hb8⟩ : ∃ b, okText t = b := ⟨_, rfl⟩
  obtain ⟨b9, hb9⟩ : ∃ b, okCount n = b := ⟨_, rfl⟩
  obtain ⟨d, hd⟩ : ∃ b, (n != 0) = b := ⟨_, rfl⟩
  obtain ⟨d1, hd1⟩ : ∃ b, decide (t = ⟨#[]⟩) = b := ⟨_, rfl⟩
  have hC : checkV ⟨6, t, n, p, l, s⟩ = if ((6 != 1 && !d1) || (6 != 2 && d) || decide (0 < (if (6 : Int) = 3 then 0 else (p.length : Int)) + (if (6 : Int) = 4 ∨ (6 : Int) = 5 then 0 else (l.length : Int)) + (if (6 : Int) = 6 then 0 else (s.length : Int)))) = true then 8
      else if 3 ≤ (6 : Int) ∧ ((p.length : Int) + l.length + s.length < 1 ∨ 20 < (p.length : Int) + l.length + s.length) then 1 else if (!b8 || b1) = true then 1 else if b2 = true then 1 else if b3 = true then 1 else if (!b9 || b4) = true then 2
      else if ((b5 && b6 && (decide ((6 : Int) ≠ 5) || b7)) && onceB s s.length) = true then 0 else 10 := by
    simp only [checkV, Val.bad, Val.els, Val.order, Val.ord, hb1, hb2, hb3, hb4, hb5, hb6, hb7, hb8, hb9, ← hd, ← hd1]
    rw [if_neg (by decide), if_neg (by decide)]
    simp
  rw [hC]
  clear hC
  refine pcallc mixed Try.func51 ac_value_Check ?_
  unfold Val.c
  repeat' (first | (with_reducible first | refine Cn (fun h => ?_) fun h => ?_ | refine And.intro ?_ ?_ | refine wR ?_ | exact wr _ _ | refine wa ?_ | apply awp_join | refine q1 (by exact elements_c _ _ _ _ _ _ (by simp; omega)) ?_ | refine q1d (by exact elements_c _ _ _ _ _ _ (by simp; omega)) ?_ | refine q1 (by exact elements_c 6 n t [] (strRows l) (sR s) (by simp; omega)) ?_ | refine q1d (by exact elements_c 6 n t [] (strRows l) (sR s) (by simp; omega)) ?_ | refine q (elements_c 6 n t [] (strRows l) (sR s) (by simp; omega)) ?_ | refine qd (elements_c 6 n t [] (strRows l) (sR s) (by simp; omega)) ?_ | refine qz (elements_c 6 n t [] (strRows l) (sR s) (by simp; omega)) ?_ | refine q1 (by exact elements_c 6 n t (pR p) [] (sR s) (by simp; omega)) ?_ | refine q1d (by exact elements_c 6 n t (pR p) [] (sR s) (by simp; omega)) ?_ | refine q (elements_c 6 n t (pR p) [] (sR s) (by simp; omega)) ?_ | refine qd (elements_c 6 n t (pR p) [] (sR s) (by simp; omega)) ?_ | refine qz (elements_c 6 n t (pR p) [] (sR s) (by simp; omega)) ?_ | refine q1 (by exact elements_c 6 n t (pR p) (strRows l) [] (by simp; omega)) ?_ | refine q1d (by exact elements_c 6 n t (pR p) (strRows l) [] (by simp; omega)) ?_ | refine q (elements_c 6 n t (pR p) (strRows l) [] (by simp; omega)) ?_ | refine qd (elements_c 6 n t (pR p) (strRows l) [] (by simp; omega)) ?_ | refine qz (elements_c 6 n t (pR p) (strRows l) [] (by simp; omega)) ?_ | refine q (text_c _) ?_ | refine qd (text_c _) ?_ | refine qz (text_c _) ?_ | refine q1 (by exact containsFunc_c _ longS _ (by omega) en61 checkFn1_c) ?_ | refine q1d (by exact containsFunc_c _ longS _ (by omega) en61 checkFn1_c) ?_ | refine q1 (by exact containsFunc_api_Pair _ badP _ (by omega) en63 checkFn2_c) ?_ | refine q1d (by exact containsFunc_api_Pair _ badP _ (by omega) en63 checkFn2_c) ?_ | refine q1 (by exact containsFunc_api_Score _ longM _ (by omega) en66 checkFn3_c) ?_ | refine q1d (by exact containsFunc_api_Score _ longM _ (by omega) en66 checkFn3_c) ?_ | refine q (count_c _) ?_ | refine qd (count_c _) ?_ | refine qz (count_c _) ?_ | refine q1 (by exact containsFunc_api_Score _ farN _ (by omega) en68 checkFn4_c) ?_ | refine q1d (by exact containsFunc_api_Score _ farN _ (by omega) en68 checkFn4_c) ?_ | refine q1 (by exact rising_api_Pair _ bF _ (by omega) en70 byField_c) ?_ | refine q1d (by exact rising_api_Pair _ bF _ (by omega) en70 byField_c) ?_ | refine q1 (by exact rising_api_Score _ bS _ (by omega) en72 byScore_c) ?_ | refine q1d (by exact rising_api_Score _ bS _ (by omega) en72 byScore_c) ?_ | refine q1 (by exact rising_string _ cmpB _ (by omega) en74 stringsCompare_c) ?_ | refine q1d (by exact rising_string _ cmpB _ (by omega) en74 stringsCompare_c) ?_) | (with_reducible refine CallZ.z ?_) | simp -dsimp [go_sem, hb1, hb2, hb3, hb4, hb5, hb6, hb7, hb8, hb9, hd, hd1])
  all_goals first
    | (refine awp_loop (fun i : Nat => ⟨[(1, .one (.ptr 0 0)), (4, bV ((b5 && b6 && (decide ((6 : Int) ≠ 5) || b7)) && onceB s i)), (100, .one (.v (.sl (sR s)))), (101, iV s.length), (102, iV i)], G, [some (.box 77 (Val.mk 6 t n p l s).c)]⟩) (fun i => i ≤ s.length) (fun i => s.length - i) 0 (weak_auto ?_) (Nat.zero_le _) ?_
       · clear hb1 hb2 hb3 hb4 hb5 hb6 hb7 hb8 hb9 hd hd1
         simp_all -dsimp [go_sem, onceB, Val.c]
       · intro i hi
         have hul := ul_s s
         simp -dsimp [go_sem, Val.c]
         refine Cnd.intro (fun h => ?_) (fun h => ?_)
         · have hlt : i < s.length := by simpa using h
           obtain ⟨a, ha⟩ : ∃ a, s[i] = a := ⟨_, rfl⟩
           have hgi : s[i]? = some a := by rw [List.getElem?_eq_getElem hlt, ha]
           have w1 : IntKind.i64.wrap ((i : Int) + 1) = (i : Int) + 1 := IntWalk.i64_in _ (by omega)
           have hon := onceB_succ s hgi
           obtain ⟨o1, ho1⟩ : ∃ b, onceB s i = b := ⟨_, rfl⟩
           rw [ho1] at hon ⊢
           repeat' (first | (with_reducible first | refine Cn (fun h => ?_) fun h => ?_ | refine And.intro ?_ ?_ | refine wR ?_ | exact wr _ _ | refine wa ?_ | apply awp_join | refine q1 (by exact rank_c _ _ (by simp; omega)) ?_ | refine q1d (by exact rank_c _ _ (by simp; omega)) ?_) | (with_reducible refine CallZ.z ?_) | simp -dsimp [go_sem, hgi, w1, ← List.map_take])
           all_goals first
             | omega
             | assumption
             | (with_reducible refine Again.auto (i + 1) ?_ ?_ ?_)
           all_goals first
             | exact hlt
             | (show s.length - (i + 1) < s.length - i; omega)
             | (rw [hon]; clear hb1 hb2 hb3 hb4 hb5 hb6 hb7 hb8 hb9 hd hd1 hon; simp_all -dsimp [go_sem, Val.c]; done)
         · have hge : ¬ i < s.length := by simpa using h
           have : i = s.length := by omega
           subst this
           repeat' (first | (with_reducible first | refine Cn (fun h => ?_) fun h => ?_ | refine And.intro ?_ ?_ | refine wR ?_ | exact wr _ _ | refine wa ?_ | apply awp_join) | (with_reducible refine CallZ.z ?_) | simp -dsimp [go_sem])
           all_goals (clear hb1 hb2 hb3 hb4 hb5 hb6 hb7 hb8 hb9 hd hd1; (try simp_all); try first | omega | ((repeat' split) <;> first | rfl | omega | (exfalso; simp_all; done))))
    | (clear hb1 hb2 hb3 hb4 hb5 hb6 hb7 hb8 hb9 hd hd1; simp_all; done)
    | (clear hb1 hb2 hb3 hb4 hb5 hb6 hb7 hb8 hb9 hd hd1; simp_all; omega)
    | (clear hb1 hb2 hb3 hb4 hb5 hb6 hb7 hb8 hb9 hd hd1; simp_all; (try intros); (repeat' split) <;> first | rfl | omega | (simp_all; done) | (simp_all; omega))
end Go.Proofs.Ytpdcfljbabpakaa

/- What Check answers of a value. -/
set_option linter.unusedVariables false
set_option linter.unusedSimpArgs false
set_option maxRecDepth 100000
set_option maxHeartbeats 8000000
namespace Go.Proofs.Ytpdcfljbabpakaa
open Go Go.RowKit Go.Proofs.AE
variable {G : Nat → AV}
theorem checkV_c (v : Val) (hs : v.Small) : PCall Try.prog G 51 [.agg v.c] (iV (checkV v)) := by
  have hk : v.kind < 1 ∨ 6 < v.kind ∨ v.kind = 1 ∨ v.kind = 2 ∨ v.kind = 3 ∨ v.kind = 4 ∨ v.kind = 5 ∨ v.kind = 6 := by omega
  rcases hk with hk | hk | hk | hk | hk | hk | hk | hk
  · refine pcallc mixed Try.func51 ac_value_Check ?_
    simp -dsimp [go_sem, hk, checkV, Val.c]
  · refine pcallc mixed Try.func51 ac_value_Check ?_
    have h' : ¬ v.kind < 1 := by omega
    simp -dsimp [go_sem, hk, h', checkV, Val.c]
  · exact checkK1_c v hs hk
  · exact checkK2_c v hs hk
  · exact checkK3_c v hs hk
  · exact checkK4_c v hs hk
  · exact checkK5_c v hs hk
  · exact checkK6_c v hs hk
end Go.Proofs.Ytpdcfljbabpakaa

/- What Do answers where it refuses. -/
set_option linter.unusedVariables false
set_option linter.unusedSimpArgs false
set_option maxRecDepth 100000
set_option maxHeartbeats 8000000
namespace Go.Proofs.Ytpdcfljbabpakaa
open Go Go.RowKit Go.Proofs.AE
variable {G : Nat → AV}
def Val.isNone (v : Val) : Bool := (v.kind == 0 && decide (v.text = ⟨#[]⟩)) && v.count == 0 && v.els == 0
def kindOfC (k : Int) : Int := if k = 2 then 1 else if k = 3 then 2 else if 4 ≤ k ∧ k ≤ 6 then 3 else if 7 ≤ k ∧ k ≤ 10 then 4 else if 11 ≤ k ∧ k ≤ 13 then 5 else if 14 ≤ k ∧ k ≤ 16 then 6 else 0
def makesC (k : Int) : Bool := k == 1 || k == 3 || k == 4 || k == 7 || k == 8 || k == 11 || k == 14
def zeroV : Val := ⟨0, ⟨#[]⟩, 0, [], [], []⟩
def checkC (c : Cmd) : Int := checkCommand c.kind c.key c.field c.text c.n
/-- What Do answers. -/
def DoV (v : Val) (c : Cmd) : Val × Rep × Int :=
  if checkV v ≠ 0 ∧ v.isNone = false then (zeroV, toldR 0, checkV v)
  else if checkC c ≠ 0 then (zeroV, toldR 0, checkC c)
  else if 18 < c.kind then (zeroV, toldR 0, 3)
  else if v.isNone = true ∧ makesC c.kind = false then (v, failR 5, 0)
  else if v.isNone = false ∧ ((kindOfC c.kind ≠ 0 ∧ kindOfC c.kind ≠ v.kind) ∨ (17 ≤ c.kind ∧ v.kind < 3)) then (v, failR 4, 0)
  else if (doV (if v.isNone = true then { v with kind := kindOfC c.kind } else v) c).2.code ≠ 0 then (v, (doV (if v.isNone = true then { v with kind := kindOfC c.kind } else v) c).2, 0)
  else if 3 ≤ (doV (if v.isNone = true then { v with kind := kindOfC c.kind } else v) c).1.kind ∧ (doV (if v.isNone = true then { v with kind := kindOfC c.kind } else v) c).1.els = 0 then (zeroV, (doV (if v.isNone = true then { v with kind := kindOfC c.kind } else v) c).2, 0)
  else ((doV (if v.isNone = true then { v with kind := kindOfC c.kind } else v) c).1, (doV (if v.isNone = true then { v with kind := kindOfC c.kind } else v) c).2, 0)
abbrev DoA (q : Val × Rep × Int) : AV := .tup [.agg q.1.c, .agg q.2.1.c, iV q.2.2]
theorem none_zero {v : Val} (h : v.isNone = true) : v = zeroV := by
  obtain ⟨k, t, n, p, l, s⟩ := v
  unfold Val.isNone Val.els at h
  simp at h
  obtain ⟨⟨⟨h1, h2⟩, h3⟩, h4⟩ := h
  have e1 : p = [] := List.eq_nil_of_length_eq_zero (by omega)
  have e2 : l = [] := List.eq_nil_of_length_eq_zero (by omega)
  have e3 : s = [] := List.eq_nil_of_length_eq_zero (by omega)
  subst h1; subst h2; subst h3; subst e1; subst e2; subst e3
  rfl
theorem zero_none : zeroV.isNone = true := by decide
theorem check_zero : checkV zeroV = 3 := by simp [checkV, zeroV]
theorem kind_ok {v : Val} (h : checkV v = 0) : 1 ≤ v.kind ∧ v.kind ≤ 6 := by
  unfold checkV at h
  by_cases h1 : v.kind < 1
  · rw [if_pos h1] at h; cases h
  · by_cases h2 : 6 < v.kind
    · rw [if_neg h1, if_pos h2] at h; cases h
    · omega
theorem none_kind {v : Val} (h : 1 ≤ v.kind) : v.isNone = false := by
  unfold Val.isNone
  have : (v.kind == 0) = false := by simp; omega
  simp [this]
end Go.Proofs.Ytpdcfljbabpakaa

/- What Do answers where it does something: with a value that is there, with none, and to a command of another kind. -/
set_option linter.unusedVariables false
set_option linter.unusedSimpArgs false
set_option maxRecDepth 100000
set_option maxHeartbeats 8000000
namespace Go.Proofs.Ytpdcfljbabpakaa
open Go Go.RowKit Go.Proofs.AE
variable {G : Nat → AV}
def DoEnd (v : Val) (q : Val × Rep) : Val × Rep × Int := if q.2.code ≠ 0 then (v, q.2, 0) else if 3 ≤ q.1.kind ∧ q.1.els = 0 then (zeroV, q.2, 0) else (q.1, q.2, 0)
theorem DoV_go {v : Val} {c : Cmd} (h : checkV v = 0) (hc : checkC c = 0) (hk : c.kind ≤ 18) (hm : ¬ ((kindOfC c.kind ≠ 0 ∧ kindOfC c.kind ≠ v.kind) ∨ (17 ≤ c.kind ∧ v.kind < 3))) : DoV v c = DoEnd v (doV v c) := by
  have hn := none_kind (kind_ok h).1
  unfold DoV DoEnd
  rw [hn]
  simp only [Bool.false_eq_true, if_false, false_and, true_and]
  rw [if_neg (by rw [h]; simp), if_neg (by rw [hc]; simp), if_neg (by omega), if_neg hm]
theorem DoV_type {v : Val} {c : Cmd} (h : checkV v = 0) (hc : checkC c = 0) (hk : c.kind ≤ 18) (hm : (kindOfC c.kind ≠ 0 ∧ kindOfC c.kind ≠ v.kind) ∨ (17 ≤ c.kind ∧ v.kind < 3)) : DoV v c = (v, failR 4, 0) := by
  have hn := none_kind (kind_ok h).1
  unfold DoV
  rw [hn]
  simp only [Bool.false_eq_true, if_false, false_and, true_and]
  rw [if_neg (by rw [h]; simp), if_neg (by rw [hc]; simp), if_neg (by omega), if_pos hm]
theorem DoEnd_fail {v : Val} {q : Val × Rep} (h : q.2.code ≠ 0) : DoEnd v q = (v, q.2, 0) := by unfold DoEnd; rw [if_pos h]
theorem DoEnd_none {v : Val} {q : Val × Rep} (h : q.2.code = 0) (h2 : 3 ≤ q.1.kind) (h3 : q.1.els = 0) : DoEnd v q = (zeroV, q.2, 0) := by unfold DoEnd; rw [if_neg (by rw [h]; simp), if_pos ⟨h2, h3⟩]
theorem DoEnd_some {v : Val} {q : Val × Rep} (h : q.2.code = 0) (h3 : ¬ (3 ≤ q.1.kind ∧ q.1.els = 0)) : DoEnd v q = (q.1, q.2, 0) := by unfold DoEnd; rw [if_neg (by rw [h]; simp), if_neg h3]
theorem doV_kind {v : Val} {c : Cmd} (h : 4 ≤ c.kind) : (doV v c).1.kind = v.kind := by
  unfold doV
  rw [if_neg (by omega), if_neg (by omega), if_neg (by omega)]
  repeat' split
  all_goals rfl
end Go.Proofs.Ytpdcfljbabpakaa

/- What Do answers where there is nothing, and to a command of another kind. -/
set_option linter.unusedVariables false
set_option linter.unusedSimpArgs false
set_option maxRecDepth 100000
set_option maxHeartbeats 8000000
namespace Go.Proofs.Ytpdcfljbabpakaa
open Go Go.RowKit Go.Proofs.AE
variable {G : Nat → AV}
theorem zeroV_small : zeroV.Small := ⟨Nat.zero_le _, Nat.zero_le _, Nat.zero_le _⟩
theorem zero_els : PCall Try.prog G 59 [.agg [iC 0, sC ⟨#[]⟩, iC 0, .v (.sl []), .v (.sl []), .v (.sl [])]] (iV 0) := elements_c 0 0 ⟨#[]⟩ [] [] [] (by simp)
theorem zero_check : PCall Try.prog G 51 [.agg [iC 0, sC ⟨#[]⟩, iC 0, .v (.sl []), .v (.sl []), .v (.sl [])]] (iV 3) := by
  have := checkV_c (G := G) zeroV zeroV_small
  rwa [check_zero] at this
end Go.Proofs.Ytpdcfljbabpakaa

/- Values that may be, in words; and that whatever is done leaves such a value. -/
set_option linter.unusedVariables false
set_option linter.unusedSimpArgs false
set_option maxRecDepth 100000
set_option maxHeartbeats 8000000
namespace Go.Proofs.Ytpdcfljbabpakaa
open Go Go.RowKit Go.Proofs.AE
theorem rising_iff {α : Type} {cmp : α → α → Int} (tr : ∀ a b c, cmp a b < 0 → cmp b c < 0 → cmp a c < 0) : ∀ {l : List α}, rising cmp l = true ↔ l.Pairwise (fun a b => cmp a b < 0)
  | [] => by simp [rising]
  | x :: l => by
    rw [List.pairwise_cons, ← rising_iff tr]
    constructor
    · intro h; exact ⟨rising_head tr h, rising_tail h⟩
    · rintro ⟨h1, h2⟩
      cases l with
      | nil => rfl
      | cons y r => simp only [rising, Bool.and_eq_true, decide_eq_true_eq]; exact ⟨h1 y (List.mem_cons_self ..), h2⟩
theorem rankOf_neg {l : List Sc} {m : ByteArray} : rankOf l m < 0 ↔ ∀ s ∈ l, s.1 ≠ m := by
  have := firstI_ge (fun s : Sc => decide (s.1 = m)) l 0
  change decide (0 ≤ rankOf l m) = _ at this
  constructor
  · intro h s hs e
    have h0 : decide (0 ≤ rankOf l m) = false := by simp; omega
    rw [h0] at this
    have h1 := List.any_eq_false.1 this.symm s hs
    simp [e] at h1
  · intro h
    have : l.any (fun s => decide (s.1 = m)) = false := by
      rw [List.any_eq_false]
      intro s hs; simpa using h s hs
    have h2 := firstI_ge (fun s : Sc => decide (s.1 = m)) l 0
    rw [this] at h2
    change decide (0 ≤ rankOf l m) = false at h2
    simp at h2; omega
theorem onceB_iff {l : List Sc} : onceB l l.length = true ↔ l.Pairwise (fun a b => a.1 ≠ b.1) := by
  rw [List.pairwise_iff_getElem]
  unfold onceB
  rw [List.all_eq_true]
  constructor
  · intro h i j hi hj hij
    have := h j (List.mem_range.2 hj)
    rw [List.getElem?_eq_getElem hj] at this
    simp only [decide_eq_true_eq] at this
    exact rankOf_neg.1 this l[i] (by rw [List.mem_take_iff_getElem]; exact ⟨i, by omega, rfl⟩)
  · intro h j hj
    have hj := List.mem_range.1 hj
    rw [List.getElem?_eq_getElem hj]
    simp only [decide_eq_true_eq]
    rw [rankOf_neg]
    intro s hs
    rw [List.mem_take_iff_getElem] at hs
    obtain ⟨i, hi, rfl⟩ := hs
    exact h i j (by omega) hj (by omega)
/-- A value that may be. -/
structure OkV (v : Val) : Prop where
  kind : 1 ≤ v.kind ∧ v.kind ≤ 6
  text : v.kind = 1 ∨ v.text = ⟨#[]⟩
  count : v.kind = 2 ∨ v.count = 0
  pairs : v.kind = 3 ∨ v.pairs = []
  items : v.kind = 4 ∨ v.kind = 5 ∨ v.items = []
  scores : v.kind = 6 ∨ v.scores = []
  els : 3 ≤ v.kind → 1 ≤ v.els ∧ v.els ≤ 20
  okT : okText v.text = true
  okI : ∀ s ∈ v.items, okText s = true
  okP : ∀ p ∈ v.pairs, okField p.1 = true ∧ okText p.2 = true
  okS : ∀ s ∈ v.scores, okText s.1 = true ∧ okCount s.2 = true
  okC : okCount v.count = true
  riseP : v.pairs.Pairwise (fun a b => bF a b < 0)
  riseS : v.scores.Pairwise (fun a b => bS a b < 0)
  riseI : v.kind = 5 → v.items.Pairwise (fun a b => cmpB a b < 0)
  once : v.scores.Pairwise (fun a b => a.1 ≠ b.1)
theorem len_zero {α : Type} {l : List α} (h : (l.length : Int) = 0) : l = [] := List.eq_nil_of_length_eq_zero (by omega)
theorem checkV_iff {v : Val} : checkV v = 0 ↔ OkV v := by
  constructor
  · intro h
    obtain ⟨k1, k2⟩ := kind_ok h
    unfold checkV at h
    rw [if_neg (by omega), if_neg (by omega)] at h
    by_cases hb : v.bad = true
    · rw [if_pos hb] at h; cases h
    rw [if_neg hb] at h
    by_cases he : 3 ≤ v.kind ∧ (v.els < 1 ∨ 20 < v.els)
    · rw [if_pos he] at h; cases h
    rw [if_neg he] at h
    by_cases h1 : (!okText v.text || v.items.any longS) = true
    · rw [if_pos h1] at h; cases h
    rw [if_neg h1] at h
    by_cases h2 : v.pairs.any badP = true
    · rw [if_pos h2] at h; cases h
    rw [if_neg h2] at h
    by_cases h3 : v.scores.any longM = true
    · rw [if_pos h3] at h; cases h
    rw [if_neg h3] at h
    by_cases h4 : (!okCount v.count || v.scores.any farN) = true
    · rw [if_pos h4] at h; cases h
    rw [if_neg h4] at h
    have h5 : v.order = true := by
      cases ho : v.order with
      | true => rfl
      | false => rw [ho] at h; simp at h
    simp only [Bool.or_eq_true, Bool.not_eq_true', not_or, Bool.not_eq_false, Bool.not_eq_true] at h1 h4 h2 h3
    unfold Val.order Val.ord at h5
    simp only [Bool.and_eq_true, Bool.or_eq_true, decide_eq_true_eq] at h5
    obtain ⟨⟨⟨r1, r2⟩, r3⟩, r4⟩ := h5
    unfold Val.bad at hb
    simp only [Bool.or_eq_true, Bool.and_eq_true, bne_iff_ne, decide_eq_true_eq, not_or, not_and, Classical.not_not] at hb
    obtain ⟨⟨b1, b2⟩, b3⟩ := hb
    refine ⟨⟨k1, k2⟩, ?_, ?_, ?_, ?_, ?_, ?_, h1.1, ?_, ?_, ?_, h4.1, (rising_iff bF_tr).1 r1, (rising_iff bS_tr).1 r2, ?_, onceB_iff.1 r4⟩
    · by_cases e : v.kind = 1
      · exact .inl e
      · exact .inr (b1 e)
    · by_cases e : v.kind = 2
      · exact .inl e
      · exact .inr (b2 e)
    · by_cases e : v.kind = 3
      · exact .inl e
      · rw [if_neg e] at b3
        refine .inr (len_zero ?_)
        split at b3 <;> split at b3 <;> omega
    · by_cases e : v.kind = 4 ∨ v.kind = 5
      · rcases e with e | e
        · exact .inl e
        · exact .inr (.inl e)
      · rw [if_neg e] at b3
        refine .inr (.inr (len_zero ?_))
        split at b3 <;> split at b3 <;> omega
    · by_cases e : v.kind = 6
      · exact .inl e
      · rw [if_neg e] at b3
        refine .inr (len_zero ?_)
        split at b3 <;> split at b3 <;> omega
    · intro hk; omega
    · intro s hs
      have := List.any_eq_false.1 h1.2 s hs
      simpa [longS] using this
    · intro p hp
      have := List.any_eq_false.1 h2 p hp
      simpa [badP] using this
    · intro s hs
      have a := List.any_eq_false.1 h3 s hs
      have b := List.any_eq_false.1 h4.2 s hs
      exact ⟨by simpa [longM] using a, by simpa [farN] using b⟩
    · intro hk
      rcases r3 with r3 | r3
      · exact absurd hk r3
      · exact (rising_iff cmpB_tr).1 r3
  · intro h
    unfold checkV
    have hk := h.kind
    rw [if_neg (by omega), if_neg (by omega)]
    have hb : ¬ v.bad = true := by
      unfold Val.bad
      simp only [Bool.or_eq_true, Bool.and_eq_true, bne_iff_ne, decide_eq_true_eq, not_or, not_and, Classical.not_not]
      refine ⟨⟨fun e => h.text.resolve_left e, fun e => h.count.resolve_left e⟩, ?_⟩
      have e1 : (if v.kind = 3 then 0 else (v.pairs.length : Int)) = 0 := by
        split
        · rfl
        · rename_i e; rw [h.pairs.resolve_left e]; rfl
      have e2 : (if v.kind = 4 ∨ v.kind = 5 then 0 else (v.items.length : Int)) = 0 := by
        split
        · rfl
        · rename_i e
          rcases h.items with x | x | x
          · exact absurd (.inl x) e
          · exact absurd (.inr x) e
          · rw [x]; rfl
      have e3 : (if v.kind = 6 then 0 else (v.scores.length : Int)) = 0 := by
        split
        · rfl
        · rename_i e; rw [h.scores.resolve_left e]; rfl
      rw [e1, e2, e3]; omega
    rw [if_neg hb]
    have he : ¬ (3 ≤ v.kind ∧ (v.els < 1 ∨ 20 < v.els)) := by
      rintro ⟨e1, e2⟩
      have := h.els e1
      omega
    rw [if_neg he]
    have h1 : (!okText v.text || v.items.any longS) = false := by
      rw [h.okT]
      simp only [Bool.not_true, Bool.false_or]
      rw [List.any_eq_false]
      intro s hs; simp [longS, h.okI s hs]
    have h2 : v.pairs.any badP = false := by
      rw [List.any_eq_false]
      intro p hp; simp [badP, h.okP p hp]
    have h3 : v.scores.any longM = false := by
      rw [List.any_eq_false]
      intro p hp; simp [longM, h.okS p hp]
    have h4 : (!okCount v.count || v.scores.any farN) = false := by
      rw [h.okC]
      simp only [Bool.not_true, Bool.false_or]
      rw [List.any_eq_false]
      intro s hs; simp [farN, h.okS s hs]
    rw [h1, h2, h3, h4]
    simp only [Bool.false_eq_true, if_false]
    have h5 : v.order = true := by
      unfold Val.order Val.ord
      simp only [Bool.and_eq_true, Bool.or_eq_true, decide_eq_true_eq]
      refine ⟨⟨⟨(rising_iff bF_tr).2 h.riseP, (rising_iff bS_tr).2 h.riseS⟩, ?_⟩, onceB_iff.2 h.once⟩
      by_cases e : v.kind = 5
      · exact .inr ((rising_iff cmpB_tr).2 (h.riseI e))
      · exact .inl e
    rw [if_pos h5]
theorem OkV.small {v : Val} (h : OkV v) : v.Small := by
  unfold Val.Small
  have := h.els
  unfold Val.els at this
  by_cases hk : 3 ≤ v.kind
  · have := this hk; omega
  · have e1 := h.pairs.resolve_left (by omega)
    have e2 := (h.items.resolve_left (by omega)).resolve_left (by omega)
    have e3 := h.scores.resolve_left (by omega)
    rw [e1, e2, e3]; simp
end Go.Proofs.Ytpdcfljbabpakaa

/- What do answers, where it writes arrays of its own. -/
set_option linter.unusedVariables false
set_option linter.unusedSimpArgs false
set_option maxRecDepth 100000
set_option maxHeartbeats 8000000
namespace Go.Proofs.Ytpdcfljbabpakaa
open Go Go.RowKit Go.Proofs.AE
variable {G : Nat → AV}
end Go.Proofs.Ytpdcfljbabpakaa

/- What Do answers. -/
set_option linter.unusedVariables false
set_option linter.unusedSimpArgs false
set_option maxRecDepth 100000
set_option maxHeartbeats 8000000
namespace Go.Proofs.Ytpdcfljbabpakaa
open Go Go.RowKit Go.Proofs.AE
variable {G : Nat → AV}
theorem DoV_zero {c : Cmd} (hc : checkC c = 0) (hk : c.kind ≤ 18) : DoV zeroV c = if makesC c.kind = true then DoEnd zeroV (doV ⟨kindOfC c.kind, ⟨#[]⟩, 0, [], [], []⟩ c) else (zeroV, failR 5, 0) := by
  unfold DoV DoEnd
  rw [zero_none]
  simp only [Bool.true_eq_false, and_false, if_false, true_and, if_true, false_and]
  rw [if_neg (by rw [hc]; simp), if_neg (by omega)]
  cases makesC c.kind with
  | true => simp only [if_true, Bool.true_eq_false, if_false]; rfl
  | false => simp
theorem checkC_kind {c : Cmd} (h : checkC c = 0) : 1 ≤ c.kind := by
  unfold checkC checkCommand at h
  by_cases h1 : c.kind < 1
  · rw [if_pos h1] at h; cases h
  · omega
theorem els_nonneg (v : Val) : 0 ≤ v.els := by unfold Val.els; omega
end Go.Proofs.Ytpdcfljbabpakaa

/- Whatever is done, a value may be, or there is none. -/
set_option linter.unusedVariables false
set_option linter.unusedSimpArgs false
set_option maxRecDepth 100000
set_option maxHeartbeats 8000000
namespace Go.Proofs.Ytpdcfljbabpakaa
open Go Go.RowKit Go.Proofs.AE
theorem checkC_facts {c : Cmd} (h : checkC c = 0) : 1 ≤ c.kind ∧ c.kind ≤ 22 ∧ okText c.text = true ∧ okCount c.n = true ∧ (4 ≤ c.kind → c.kind ≤ 6 → okField c.field = true) := by
  unfold checkC checkCommand at h
  by_cases h1 : c.kind < 1
  · rw [if_pos h1] at h; cases h
  rw [if_neg h1] at h
  by_cases h2 : 22 < c.kind
  · rw [if_pos h2] at h; cases h
  rw [if_neg h2] at h
  by_cases h3 : formOk c.kind c.key c.field c.text c.n = false
  · rw [if_pos h3] at h; cases h
  rw [if_neg h3] at h
  by_cases h4 : ((c.kind != 22 && !okField c.key || (c.kind == 4 || c.kind == 5 || c.kind == 6) && !okField c.field) || !okText c.text) = true
  · rw [if_pos h4] at h; cases h
  rw [if_neg h4] at h
  by_cases h5 : okCount c.n = false
  · rw [if_pos h5] at h; cases h
  simp only [Bool.or_eq_true, Bool.and_eq_true, not_or, not_and, Bool.not_eq_true', Bool.not_eq_false, beq_iff_eq] at h4 h5
  refine ⟨by omega, by omega, h4.2, h5, fun h6 h7 => ?_⟩
  exact h4.1.2 (by omega)
/-- A value that may be, but that there may be nothing in it. -/
structure OkB (v : Val) : Prop where
  kind : 1 ≤ v.kind ∧ v.kind ≤ 6
  text : v.kind = 1 ∨ v.text = ⟨#[]⟩
  count : v.kind = 2 ∨ v.count = 0
  pairs : v.kind = 3 ∨ v.pairs = []
  items : v.kind = 4 ∨ v.kind = 5 ∨ v.items = []
  scores : v.kind = 6 ∨ v.scores = []
  els : v.els ≤ 20
  okT : okText v.text = true
  okI : ∀ s ∈ v.items, okText s = true
  okP : ∀ p ∈ v.pairs, okField p.1 = true ∧ okText p.2 = true
  okS : ∀ s ∈ v.scores, okText s.1 = true ∧ okCount s.2 = true
  okC : okCount v.count = true
  riseP : v.pairs.Pairwise (fun a b => bF a b < 0)
  riseS : v.scores.Pairwise (fun a b => bS a b < 0)
  riseI : v.kind = 5 → v.items.Pairwise (fun a b => cmpB a b < 0)
  once : v.scores.Pairwise (fun a b => a.1 ≠ b.1)
theorem OkB.ok {v : Val} (h : OkB v) (h1 : ¬ (3 ≤ v.kind ∧ v.els = 0)) : OkV v :=
  ⟨h.kind, h.text, h.count, h.pairs, h.items, h.scores, fun hk => by have := h.els; have : 0 ≤ v.els := by (unfold Val.els; omega)
                                                                     omega, h.okT, h.okI, h.okP, h.okS, h.okC, h.riseP, h.riseS, h.riseI, h.once⟩
theorem OkV.b {v : Val} (h : OkV v) : OkB v := by
  refine ⟨h.kind, h.text, h.count, h.pairs, h.items, h.scores, ?_, h.okT, h.okI, h.okP, h.okS, h.okC, h.riseP, h.riseS, h.riseI, h.once⟩
  by_cases hk : 3 ≤ v.kind
  · exact (h.els hk).2
  · unfold Val.els
    rw [h.pairs.resolve_left (by omega), (h.items.resolve_left (by omega)).resolve_left (by omega), h.scores.resolve_left (by omega)]
    simp
theorem fresh_b {k : Int} (h1 : 1 ≤ k) (h2 : k ≤ 6) : OkB ⟨k, ⟨#[]⟩, 0, [], [], []⟩ :=
  ⟨⟨h1, h2⟩, .inr rfl, .inr rfl, .inr rfl, .inr (.inr rfl), .inr rfl, by simp [Val.els], rfl, by simp, by simp, by simp, rfl, .nil, .nil, fun _ => .nil, .nil⟩
/-! ### rows with one more, or one less -/
theorem mem_ins {α : Type} {l : List α} {i : Nat} {x y : α} (h : y ∈ insAt l i x) : y = x ∨ y ∈ l := by
  unfold insAt at h
  rcases List.mem_append.1 h with h | h
  · exact .inr (List.mem_of_mem_take h)
  · rcases List.mem_cons.1 h with h | h
    · exact .inl h
    · exact .inr (List.mem_of_mem_drop h)
theorem mem_del {α : Type} {l : List α} {i : Nat} {y : α} (h : y ∈ delAt l i) : y ∈ l := by
  unfold delAt at h
  rcases List.mem_append.1 h with h | h
  · exact List.mem_of_mem_take h
  · exact List.mem_of_mem_drop h
theorem del_sub {α : Type} (l : List α) (i : Nat) : (delAt l i).Sublist l := by
  unfold delAt
  have e : l.drop (i + 1) = (l.drop i).drop 1 := by rw [List.drop_drop]
  have h : (l.take i ++ l.drop (i + 1)).Sublist (l.take i ++ l.drop i) := List.Sublist.append (List.Sublist.refl _) (by rw [e]; exact List.drop_sublist _ _)
  rwa [List.take_append_drop] at h
theorem pair_ins {α : Type} {R : α → α → Prop} {l : List α} {i : Nat} {x : α} (h : l.Pairwise R) (h1 : ∀ a ∈ l.take i, R a x) (h2 : ∀ b ∈ l.drop i, R x b) : (insAt l i x).Pairwise R := by
  unfold insAt
  have hs : (l.take i ++ l.drop i).Pairwise R := by rw [List.take_append_drop]; exact h
  rw [List.pairwise_append] at hs ⊢
  refine ⟨hs.1, List.pairwise_cons.2 ⟨h2, hs.2.1⟩, fun a ha b hb => ?_⟩
  rcases List.mem_cons.1 hb with rfl | hb
  · exact h1 a ha
  · exact hs.2.2 a ha b hb
theorem take_lt {α : Type} (lt : α → Bool) (l : List α) : ∀ a ∈ l.take (plc lt l), lt a = true := by
  intro a ha
  rw [List.mem_take_iff_getElem] at ha
  obtain ⟨j, hj, rfl⟩ := ha
  exact plc_lt lt l j _ (List.getElem?_eq_getElem (by omega)) (by omega)
theorem mem_drop_get {α : Type} {l : List α} {i : Nat} {b : α} (h : b ∈ l.drop i) : ∃ j, i ≤ j ∧ l[j]? = some b := by
  obtain ⟨j, hj⟩ := List.getElem?_of_mem h
  rw [List.getElem?_drop] at hj
  exact ⟨i + j, by omega, hj⟩
theorem set_same_map {ps : List Pr} {i : Nat} {a : Pr} (h : ps[i]? = some a) (t : ByteArray) : (ps.set i (a.1, t)).map (·.1) = ps.map (·.1) := by
  rw [List.map_set]
  apply List.ext_getElem?
  intro j
  rw [List.getElem?_set]
  split
  · rename_i e; subst e
    obtain ⟨hlt, he⟩ := List.getElem?_eq_some_iff.1 h
    simp [hlt, he]
  · rfl
theorem pw_fst {ps qs : List Pr} (h : qs.map (·.1) = ps.map (·.1)) (hp : ps.Pairwise (fun a b => bF a b < 0)) : qs.Pairwise (fun a b => bF a b < 0) := by
  have h1 : (ps.map (·.1)).Pairwise (fun a b => cmpB a b < 0) := List.pairwise_map.2 hp
  rw [← h] at h1
  exact List.pairwise_map.1 h1
/-! ### a hash -/
theorem hashIn_some {ps : List Pr} {f : ByteArray} (h : hashIn ps f = true) : ∃ a, ps[hashAt ps f]? = some a ∧ a.1 = f := by
  unfold hashIn at_api_Pair at h
  cases hx : ps[hashAt ps f]? with
  | none => rw [hx] at h; cases h
  | some a =>
    rw [hx] at h
    exact ⟨a, rfl, cmpB_eq (by simpa using h)⟩
theorem hash_drop {ps : List Pr} {f : ByteArray} (hp : ps.Pairwise (fun a b => bF a b < 0)) (h : hashIn ps f = false) : ∀ b ∈ ps.drop (hashAt ps f), cmpB f b.1 < 0 := by
  intro b hb
  obtain ⟨j, hj, hbj⟩ := mem_drop_get hb
  have hge := hash_ge ((rising_iff bF_tr).2 hp) f j b hbj hj
  have hne : cmpB b.1 f ≠ 0 := by
    intro e
    rcases Nat.lt_or_ge (hashAt ps f) j with hlt | hge'
    · -- then the one at the place is less
      have hlen := lt_of_getElem? hbj
      have ha : ps[hashAt ps f]? = some ps[hashAt ps f] := List.getElem?_eq_getElem (by omega)
      have h1 := hash_ge ((rising_iff bF_tr).2 hp) f _ _ ha (Nat.le_refl _)
      have h2 : bF ps[hashAt ps f] ps[j] < 0 := List.pairwise_iff_getElem.1 hp _ _ (by omega) hlen hlt
      rw [List.getElem?_eq_getElem hlen] at hbj
      have hb' : ps[j] = b := Option.some.inj hbj
      rw [hb'] at h2
      have h3 := cmpB_eq e
      change cmpB ps[hashAt ps f].1 b.1 < 0 at h2
      rw [h3] at h2; omega
    · have : j = hashAt ps f := by omega
      subst this
      unfold hashIn at_api_Pair at h
      rw [hbj] at h
      simp at h
      exact h e
  rw [cmpB_anti]; omega
theorem hash_ok {ps : List Pr} {c : Cmd} (hp : ps.Pairwise (fun a b => bF a b < 0)) (ho : ∀ p ∈ ps, okField p.1 = true ∧ okText p.2 = true) (hl : ps.length ≤ 20) (hf : okField c.field = true) (ht : okText c.text = true) (hc : (hashV ps c).2.code = 0) :
    (hashV ps c).1.Pairwise (fun a b => bF a b < 0) ∧ (∀ p ∈ (hashV ps c).1, okField p.1 = true ∧ okText p.2 = true) ∧ (hashV ps c).1.length ≤ 20 := by
  unfold hashV at hc ⊢
  simp only at hc ⊢
  by_cases h4 : c.kind = 4
  · rw [if_pos h4] at hc ⊢
    cases hin : hashIn ps c.field with
    | true =>
      obtain ⟨a, ha, hx⟩ := hashIn_some hin
      simp only [if_true, ha, Option.getD_some]
      refine ⟨pw_fst (set_same_map ha c.text) hp, ?_, by simpa using hl⟩
      intro p h
      rcases List.mem_or_eq_of_mem_set h with h | h
      · exact ho p h
      · rw [h]; exact ⟨(ho a (List.mem_of_getElem? ha)).1, ht⟩
    | false =>
      rw [hin] at hc
      simp only [Bool.false_eq_true, if_false] at hc ⊢
      by_cases h20 : ps.length = 20
      · rw [if_pos h20] at hc; simp [failR] at hc
      · rw [if_neg h20]
        refine ⟨pair_ins hp (fun a ha => ?_) (fun b hb => ?_), ?_, ?_⟩
        · have := take_lt (fun p : Pr => decide (cmpB p.1 c.field < 0)) ps a ha
          simpa using this
        · exact hash_drop hp hin b hb
        · intro p h
          rcases mem_ins h with rfl | h
          · exact ⟨hf, ht⟩
          · exact ho p h
        · rw [insAt_length]; omega
  · rw [if_neg h4]
    by_cases h5 : c.kind = 5
    · rw [if_pos h5]
      split <;> exact ⟨hp, ho, hl⟩
    · rw [if_neg h5]
      split
      · exact ⟨hp.sublist (del_sub _ _), fun p h => ho p (mem_del h), Nat.le_trans (delAt_length _ _) hl⟩
      · exact ⟨hp, ho, hl⟩
/-! ### a list -/
theorem list_ok {l : List ByteArray} {c : Cmd} (ho : ∀ s ∈ l, okText s = true) (hl : l.length ≤ 20) (ht : okText c.text = true) (hk : 7 ≤ c.kind) (hc : (listV l c).2.code = 0) : (∀ s ∈ (listV l c).1, okText s = true) ∧ (listV l c).1.length ≤ 20 := by
  unfold listV at hc ⊢
  by_cases h1 : c.kind ≤ 8 ∧ l.length = 20
  · rw [if_pos h1] at hc; simp [failR] at hc
  rw [if_neg h1]
  by_cases h7 : c.kind = 7
  · rw [if_pos h7]
    refine ⟨fun s h => ?_, ?_⟩
    · rcases List.mem_append.1 h with h | h
      · exact ho s h
      · simp at h; subst h; exact ht
    · simp; omega
  rw [if_neg h7]
  by_cases h8 : c.kind = 8
  · rw [if_pos h8]
    refine ⟨fun s h => ?_, ?_⟩
    · rcases List.mem_cons.1 h with h | h
      · rw [h]; exact ht
      · exact ho s h
    · simp; omega
  rw [if_neg h8]
  split
  · exact ⟨fun s h => ho s (List.mem_of_mem_take h), by simp; omega⟩
  · exact ⟨fun s h => ho s (List.mem_of_mem_drop h), by simp; omega⟩
/-! ### a set -/
theorem setIn_some {l : List ByteArray} {t : ByteArray} (h : setIn l t = true) : l[setAt l t]? = some t := by
  unfold setIn at_string at h
  cases hx : l[setAt l t]? with
  | none => rw [hx] at h; cases h
  | some a => rw [hx] at h; simp at h; rw [h]
theorem set_drop {l : List ByteArray} {t : ByteArray} (hp : l.Pairwise (fun a b => cmpB a b < 0)) (h : setIn l t = false) : ∀ b ∈ l.drop (setAt l t), cmpB t b < 0 := by
  intro b hb
  obtain ⟨j, hj, hbj⟩ := mem_drop_get hb
  have hge := set_ge ((rising_iff cmpB_tr).2 hp) t j b hbj hj
  rw [lessB_eq] at hge
  simp at hge
  have hne : cmpB b t ≠ 0 := by
    intro e
    have hbt := cmpB_eq e
    subst hbt
    rcases Nat.lt_or_ge (setAt l b) j with hlt | hge'
    · have hlen := lt_of_getElem? hbj
      have ha : l[setAt l b]? = some l[setAt l b] := List.getElem?_eq_getElem (by omega)
      have h1 := set_ge ((rising_iff cmpB_tr).2 hp) b _ _ ha (Nat.le_refl _)
      rw [lessB_eq] at h1
      simp at h1
      have h2 : cmpB l[setAt l b] l[j] < 0 := List.pairwise_iff_getElem.1 hp _ _ (by omega) hlen hlt
      rw [List.getElem?_eq_getElem hlen] at hbj
      have hb' : l[j] = b := Option.some.inj hbj
      rw [hb'] at h2; omega
    · have : j = setAt l b := by omega
      subst this
      unfold setIn at_string at h
      rw [hbj] at h
      simp at h
  rw [cmpB_anti]; omega
theorem set_ok {l : List ByteArray} {c : Cmd} (hp : l.Pairwise (fun a b => cmpB a b < 0)) (ho : ∀ s ∈ l, okText s = true) (hl : l.length ≤ 20) (ht : okText c.text = true) (hc : (setV l c).2.code = 0) :
    (setV l c).1.Pairwise (fun a b => cmpB a b < 0) ∧ (∀ s ∈ (setV l c).1, okText s = true) ∧ (setV l c).1.length ≤ 20 := by
  unfold setV at hc ⊢
  simp only at hc ⊢
  by_cases h4 : c.kind = 11
  · rw [if_pos h4] at hc ⊢
    cases hin : setIn l c.text with
    | true => exact ⟨hp, ho, hl⟩
    | false =>
      rw [hin] at hc
      simp only [Bool.false_eq_true, if_false] at hc ⊢
      by_cases h20 : l.length = 20
      · rw [if_pos h20] at hc; simp [failR] at hc
      · rw [if_neg h20]
        refine ⟨pair_ins hp (fun a ha => ?_) (fun b hb => ?_), ?_, ?_⟩
        · have := take_lt (fun a => lessB a c.text) l a ha
          rw [lessB_eq] at this
          simpa using this
        · exact set_drop hp hin b hb
        · intro p h
          rcases mem_ins h with rfl | h
          · exact ht
          · exact ho p h
        · rw [insAt_length]; omega
  · rw [if_neg h4]
    by_cases h5 : c.kind = 12
    · rw [if_pos h5]
      split
      · exact ⟨hp.sublist (del_sub _ _), fun p h => ho p (mem_del h), Nat.le_trans (delAt_length _ _) hl⟩
      · exact ⟨hp, ho, hl⟩
    · rw [if_neg h5]
      exact ⟨hp, ho, hl⟩
/-! ### ranks -/
theorem firstI_at {α : Type} (p : α → Bool) : ∀ (l : List α) (i j : Nat), firstI p i l = ((i + j : Nat) : Int) → (h : j < l.length) → p l[j] = true
  | [], _, _, _, h => by simp at h
  | x :: l, i, 0, h, _ => by
    unfold firstI at h
    cases hx : p x with
    | true => simpa using hx
    | false =>
      rw [hx] at h
      simp only [Bool.false_eq_true, if_false] at h
      rcases firstI_lt p l (i + 1) with h1 | ⟨j, h1, _⟩
      · rw [h1] at h; omega
      · rw [h1] at h; omega
  | x :: l, i, j + 1, h, hj => by
    unfold firstI at h
    cases hx : p x with
    | true => rw [hx] at h; simp at h; omega
    | false =>
      rw [hx] at h
      simp only [Bool.false_eq_true, if_false] at h
      have := firstI_at p l (i + 1) j (by rw [h]; congr 1; omega) (by simpa using hj)
      simpa using this
theorem rankCut_none {l : List Sc} {m : ByteArray} (ho : l.Pairwise (fun a b => a.1 ≠ b.1)) : ∀ s ∈ rankCut l m, s.1 ≠ m := by
  unfold rankCut
  split
  · rename_i h; exact rankOf_neg.1 h
  · rename_i h
    rcases rankOf_cases l m with hn | ⟨j, hj, hlt⟩
    · omega
    · rw [hj]
      have hm : (l[j]).1 = m := by
        have := firstI_at (fun s : Sc => decide (s.1 = m)) l 0 j (by simpa [rankOf] using hj) hlt
        simpa using this
      intro s hs e
      unfold delAt at hs
      rw [Int.toNat_natCast] at hs
      rw [List.pairwise_iff_getElem] at ho
      rcases List.mem_append.1 hs with hs | hs
      · rw [List.mem_take_iff_getElem] at hs
        obtain ⟨i, hi, rfl⟩ := hs
        exact ho i j (by omega) hlt (by omega) (by rw [hm]; exact e)
      · obtain ⟨i, hi, hx⟩ := mem_drop_get hs
        have hil := lt_of_getElem? hx
        rw [List.getElem?_eq_getElem hil] at hx
        have hx := Option.some.inj hx
        exact ho j i hlt hil (by omega) (by rw [hm, hx]; exact e.symm)
theorem rankCut_sub (l : List Sc) (m : ByteArray) : (rankCut l m).Sublist l := by
  unfold rankCut
  split
  · exact List.Sublist.refl _
  · exact del_sub _ _
theorem rank_drop {l : List Sc} {m : ByteArray} {n : Int} (hp : l.Pairwise (fun a b => bS a b < 0)) (hn : ∀ s ∈ l, s.1 ≠ m) (hg : ∀ (j : Nat) a, l[j]? = some a → rankAt l m n ≤ j → 0 ≤ bS a (m, n)) : ∀ b ∈ l.drop (rankAt l m n), bS (m, n) b < 0 := by
  intro b hb
  obtain ⟨j, hj, hbj⟩ := mem_drop_get hb
  have h1 := hg j b hbj hj
  have hne := hn b (List.mem_of_getElem? hbj)
  rw [bS_lt]
  have h2 : ¬ bS b (m, n) < 0 := by omega
  rw [bS_lt] at h2
  simp only [not_or, not_and] at h2
  by_cases e : n < b.2
  · exact .inl e
  · have h5 : ¬ b.2 < n := h2.1
    have e2 : b.2 = n := by omega
    refine .inr ⟨e2.symm, ?_⟩
    have h3 : ¬ cmpB b.1 m < 0 := h2.2 e2
    show cmpB m b.1 < 0
    have h4 : cmpB b.1 m ≠ 0 := fun e => hne (cmpB_eq e)
    rw [cmpB_anti]; omega
theorem ranks_ok {l : List Sc} {c : Cmd} (hp : l.Pairwise (fun a b => bS a b < 0)) (h1 : l.Pairwise (fun a b => a.1 ≠ b.1)) (ho : ∀ s ∈ l, okText s.1 = true ∧ okCount s.2 = true) (hl : l.length ≤ 20) (ht : okText c.text = true) (hn : okCount c.n = true) (hc : (ranksV l c).2.code = 0) :
    (ranksV l c).1.Pairwise (fun a b => bS a b < 0) ∧ (ranksV l c).1.Pairwise (fun a b => a.1 ≠ b.1) ∧ (∀ s ∈ (ranksV l c).1, okText s.1 = true ∧ okCount s.2 = true) ∧ (ranksV l c).1.length ≤ 20 := by
  have cs := rankCut_sub l c.text
  have cl := rankCut_len l c.text
  have co : ∀ s ∈ rankCut l c.text, okText s.1 = true ∧ okCount s.2 = true := fun s h => ho s (cs.subset h)
  unfold ranksV at hc ⊢
  simp only at hc ⊢
  by_cases h16 : c.kind = 16
  · rw [if_pos h16]; exact ⟨hp, h1, ho, hl⟩
  rw [if_neg h16] at hc ⊢
  by_cases h15 : c.kind = 15
  · rw [if_pos h15]; exact ⟨hp.sublist cs, h1.sublist cs, co, Nat.le_trans cl hl⟩
  rw [if_neg h15] at hc ⊢
  by_cases hf : rankOf l c.text < 0 ∧ l.length = 20
  · rw [if_pos hf] at hc; simp [failR] at hc
  rw [if_neg hf]
  have hnone := rankCut_none (m := c.text) h1
  refine ⟨pair_ins (hp.sublist cs) (fun a ha => ?_) (rank_drop (hp.sublist cs) hnone (rank_ge ((rising_iff bS_tr).2 hp) c.text c.n)), pair_ins (h1.sublist cs) (fun a ha => hnone a (List.mem_of_mem_take ha)) (fun b hb => (hnone b (List.mem_of_mem_drop hb)).symm), ?_, ?_⟩
  · have := take_lt (fun a : Sc => decide (bS a (c.text, c.n) < 0)) (rankCut l c.text) a ha
    simpa using this
  · intro s h
    rcases mem_ins h with rfl | h
    · exact ⟨ht, hn⟩
    · exact co s h
  · rw [insAt_length]
    unfold rankCut at cl ⊢
    split
    · rename_i h
      have : ¬ l.length = 20 := fun e => hf ⟨h, e⟩
      omega
    · rename_i h
      rcases rankOf_cases l c.text with hn | ⟨j, hj, hlt⟩
      · omega
      · rw [hj, Int.toNat_natCast]; unfold delAt; simp; omega
/-! ### whatever is done -/
def Vk (v : Val) : Prop := OkV v ∨ v = zeroV
theorem Vk.small {v : Val} (h : Vk v) : v.Small := by
  rcases h with h | h
  · exact h.small
  · rw [h]; exact ⟨Nat.zero_le _, Nat.zero_le _, Nat.zero_le _⟩
theorem typed_kind {k κ : Int} (h : kindOfC k = κ) (hk : 4 ≤ k) (h2 : k ≤ 16) : (κ = 3 ∧ k ≤ 6) ∨ (κ = 4 ∧ 7 ≤ k ∧ k ≤ 10) ∨ (κ = 5 ∧ 11 ≤ k ∧ k ≤ 13) ∨ (κ = 6 ∧ 14 ≤ k) := by
  unfold kindOfC at h
  repeat' split at h
  all_goals omega
/-- A command of the kind that fits. -/
theorem doV_ok {v : Val} {c : Cmd} (h : OkB v) (hc : checkC c = 0) (hk : c.kind ≤ 16) (hf : c.kind = 1 ∨ kindOfC c.kind = v.kind) (h0 : (doV v c).2.code = 0) : OkB (doV v c).1 := by
  obtain ⟨c1, c2, c3, c4, c5⟩ := checkC_facts hc
  unfold doV at h0 ⊢
  by_cases k1 : c.kind = 1
  · rw [if_pos k1]
    exact ⟨⟨(by show (1 : Int) ≤ 1; omega), (by show (1 : Int) ≤ 6; omega)⟩, .inl rfl, .inr rfl, .inr rfl, .inr (.inr rfl), .inr rfl, by simp [Val.els], c3, by simp, by simp, by simp, rfl, .nil, .nil, fun _ => .nil, .nil⟩
  have hf := hf.resolve_left k1
  rw [if_neg k1] at h0 ⊢
  by_cases k2 : c.kind = 2
  · rw [if_pos k2]; exact h
  rw [if_neg k2] at h0 ⊢
  by_cases k3 : c.kind = 3
  · rw [if_pos k3] at h0 ⊢
    have hv : v.kind = 2 := by rw [k3] at hf; exact hf.symm
    split
    · rename_i hcn
      exact ⟨h.kind, h.text, .inl hv, h.pairs, h.items, h.scores, h.els, h.okT, h.okI, h.okP, h.okS, hcn, h.riseP, h.riseS, h.riseI, h.once⟩
    · exact h
  rw [if_neg k3] at h0 ⊢
  rw [if_neg (by omega), if_neg (by omega)] at h0 ⊢
  have hel := h.els
  unfold Val.els at hel
  rcases typed_kind hf (by omega) hk with ⟨e, b1⟩ | ⟨e, b1, b2⟩ | ⟨e, b1, b2⟩ | ⟨e, b1⟩
  · rw [if_pos e] at h0 ⊢
    have ei := (h.items.resolve_left (by omega)).resolve_left (by omega)
    have es := h.scores.resolve_left (by omega)
    obtain ⟨q1, q2, q3⟩ := hash_ok h.riseP h.okP (by omega) (c5 (by omega) b1) c3 h0
    refine ⟨h.kind, h.text, h.count, .inl e, h.items, h.scores, ?_, h.okT, h.okI, q2, h.okS, h.okC, q1, h.riseS, h.riseI, h.once⟩
    simp only [Val.els, ei, es, List.length_nil]; omega
  · rw [if_neg (by omega), if_pos e] at h0 ⊢
    have ep := h.pairs.resolve_left (by omega)
    have es := h.scores.resolve_left (by omega)
    obtain ⟨q1, q2⟩ := list_ok h.okI (by omega) c3 b1 h0
    refine ⟨h.kind, h.text, h.count, h.pairs, .inl e, h.scores, ?_, h.okT, q1, h.okP, h.okS, h.okC, h.riseP, h.riseS, fun x => ?_, h.once⟩
    · simp only [Val.els, ep, es, List.length_nil]; omega
    · simp only at x; omega
  · rw [if_neg (by omega), if_neg (by omega), if_pos e] at h0 ⊢
    have ep := h.pairs.resolve_left (by omega)
    have es := h.scores.resolve_left (by omega)
    obtain ⟨q1, q2, q3⟩ := set_ok (h.riseI e) h.okI (by omega) c3 h0
    refine ⟨h.kind, h.text, h.count, h.pairs, .inr (.inl e), h.scores, ?_, h.okT, q2, h.okP, h.okS, h.okC, h.riseP, h.riseS, fun _ => q1, h.once⟩
    simp only [Val.els, ep, es, List.length_nil]; omega
  · rw [if_neg (by omega), if_neg (by omega), if_neg (by omega)] at h0 ⊢
    have ep := h.pairs.resolve_left (by omega)
    have ei := (h.items.resolve_left (by omega)).resolve_left (by omega)
    obtain ⟨q1, q2, q3, q4⟩ := ranks_ok h.riseS h.once h.okS (by omega) c3 c4 h0
    refine ⟨h.kind, h.text, h.count, h.pairs, h.items, .inl e, ?_, h.okT, h.okI, h.okP, q3, h.okC, h.riseP, q1, h.riseI, q2⟩
    simp only [Val.els, ep, ei, List.length_nil]; omega
end Go.Proofs.Ytpdcfljbabpakaa

/- What the functions that make commands answer. -/
set_option linter.unusedVariables false
set_option linter.unusedSimpArgs false
set_option maxRecDepth 100000
set_option maxHeartbeats 8000000
namespace Go.Proofs.Ytpdcfljbabpakaa
open Go Go.RowKit Go.Proofs.AE
variable {G : Nat → AV}
theorem kids : Kids Try.prog (· < Try.prog.types.size) := kids_rows (by kernel_rfl) (by kernel_rfl)
theorem slok : slicesOk Try.prog = true := by kernel_rfl
def someS (n : Int) : ByteArray := ⟨#[UInt8.ofNat (97 + pk n 9).toNat]⟩
theorem someS_size (n : Int) : (someS n).size = 1 := rfl
theorem some_c (n : Int) (hn : i64 n) : PCall Try.prog G 54 [iV n] (sV (someS n)) := by
  have hk := pk_range (n := n) (m := 9) (by omega)
  have hw : IntKind.i64.wrap (97 + pk n 9) = 97 + pk n 9 := IntWalk.i64_in _ (by omega)
  have hw8 : IntKind.u8.wrap (97 + pk n 9) = 97 + pk n 9 := by
    exact IntWalk.u8_in _ (by omega)
  refine pcallc mixed Try.func54 ac_rostrumkeep_some ?_
  unfold someS
  repeat' (first | (with_reducible first | refine Cn (fun h => ?_) fun h => ?_ | refine And.intro ?_ ?_ | refine wR ?_ | exact wr _ _ | refine wa ?_ | apply awp_join | refine q1 (by exact picked_c _ _ (by assumption) (by simp)) ?_ | refine q1d (by exact picked_c _ _ (by assumption) (by simp)) ?_) | (with_reducible refine CallZ.z ?_) | simp -dsimp [go_sem, hw, hw8, bytesOf, AE.byteOf])
def cutS (s : ByteArray) (n : Int) : ByteArray := s.extract 0 (if n < (s.size : Int) then n else (s.size : Int)).toNat
theorem cut_c (s : ByteArray) (n : Int) (hn : 0 ≤ n) : PCall Try.prog G 55 [sV s, iV n] (sV (cutS s n)) := by
  refine pcallc mixed Try.func55 ac_rostrumkeep_cut ?_
  unfold cutS
  have h1 : 0 ≤ if n < (s.size : Int) then n else (s.size : Int) := by split <;> omega
  have h2 : (if n < (s.size : Int) then n else (s.size : Int)) ≤ (s.size : Int) := by split <;> omega
  simp -dsimp [go_sem, h1, h2]
theorem cutS_size (s : ByteArray) {n : Int} (hn : 0 ≤ n) : ((cutS s n).size : Int) ≤ n := by
  unfold cutS
  rw [ByteArray.size_extract]
  split <;> omega

/-- The command of raw numbers, of a kind. -/
def cmdText (n : Int) (text : ByteArray) : ByteArray := if pk n 3 = 0 then someS n else cutS text 6
def cmdOf (k key field n : Int) (text : ByteArray) : List C :=
  [iC k, sC (if k = 22 then ⟨#[]⟩ else someS key), sC (if k = 4 ∨ k = 5 ∨ k = 6 then someS field else ⟨#[]⟩),
   sC (if k = 1 ∨ k = 4 ∨ k = 7 ∨ k = 8 ∨ k = 11 ∨ k = 12 ∨ k = 13 ∨ k = 14 ∨ k = 15 ∨ k = 16 then cmdText n text else ⟨#[]⟩),
   iC (if k = 3 then n.tmod 1073741824 else if k = 20 then pk n 60 else if k = 14 then pk n 12 - 6 else 0)]
theorem cmd6 (n : Int) : IntKind.i64.wrap (pk n 12 - 6) = pk n 12 - 6 := by
  have := pk_range (n := n) (m := 12) (by omega)
  exact IntWalk.i64_in _ (by omega)
theorem command0_c (kind key field n : Int) (text : ByteArray) (h1 : i64 kind) (h2 : i64 key) (h3 : i64 field) (h4 : i64 n) (hk : pk kind 22 = 0) : PCall Try.prog G 42 [.agg [iC kind, iC key, iC field, iC n, sC text]] (.agg (cmdOf (1 + pk kind 22) key field n text)) := by
  rw [hk]
  refine pcallc mixed Try.func42 ac_rostrumkeep_Command ?_
  have e : IntKind.i64.wrap (1 + 0) = 1 + 0 := by rfl
  simp -dsimp [go_sem]
  refine awp_join ⟨[(1, .one (.ptr 0 0)), (2, .one (.ptr 1 0)), (3, .one (.ptr 2 0))], G, [some (.box 59 [iC kind, iC key, iC field, iC n, sC text]), some (.box 40 [iC 0, sC ⟨#[]⟩, sC ⟨#[]⟩, sC ⟨#[]⟩, iC 0]), some (.box 40 [iC (1 + 0), sC (someS key), sC ⟨#[]⟩, sC ⟨#[]⟩, iC 0])]⟩ ?_ ?_
  repeat' (first | (with_reducible first | refine Cn (fun h => ?_) fun h => ?_ | refine And.intro ?_ ?_ | refine wR ?_ | exact wr _ _ | refine wa ?_ | apply awp_join | refine q1 (by exact picked_c _ _ (by assumption) (by simp)) ?_ | refine q1d (by exact picked_c _ _ (by assumption) (by simp)) ?_ | refine q1 (by exact some_c _ (by assumption)) ?_ | refine q1d (by exact some_c _ (by assumption)) ?_ | refine q1 (by exact picked_c _ _ (by assumption) (by simp)) ?_ | refine q1d (by exact picked_c _ _ (by assumption) (by simp)) ?_ | refine q1 (by exact some_c _ (by assumption)) ?_ | refine q1d (by exact some_c _ (by assumption)) ?_ | refine q1 (by exact cut_c _ _ (by simp)) ?_ | refine q1d (by exact cut_c _ _ (by simp)) ?_) | (with_reducible refine CallZ.z ?_) | simp -dsimp [go_sem, hk, e, cmd6])
  all_goals simp_all [cmdOf, cmdText, coeCs, coeC]
theorem command1_c (kind key field n : Int) (text : ByteArray) (h1 : i64 kind) (h2 : i64 key) (h3 : i64 field) (h4 : i64 n) (hk : pk kind 22 = 1) : PCall Try.prog G 42 [.agg [iC kind, iC key, iC field, iC n, sC text]] (.agg (cmdOf (1 + pk kind 22) key field n text)) := by
  rw [hk]
  refine pcallc mixed Try.func42 ac_rostrumkeep_Command ?_
  have e : IntKind.i64.wrap (1 + 1) = 1 + 1 := by rfl
  simp -dsimp [go_sem]
  refine awp_join ⟨[(1, .one (.ptr 0 0)), (2, .one (.ptr 1 0)), (3, .one (.ptr 2 0))], G, [some (.box 59 [iC kind, iC key, iC field, iC n, sC text]), some (.box 40 [iC 0, sC ⟨#[]⟩, sC ⟨#[]⟩, sC ⟨#[]⟩, iC 0]), some (.box 40 [iC (1 + 1), sC (someS key), sC ⟨#[]⟩, sC ⟨#[]⟩, iC 0])]⟩ ?_ ?_
  repeat' (first | (with_reducible first | refine Cn (fun h => ?_) fun h => ?_ | refine And.intro ?_ ?_ | refine wR ?_ | exact wr _ _ | refine wa ?_ | apply awp_join | refine q1 (by exact picked_c _ _ (by assumption) (by simp)) ?_ | refine q1d (by exact picked_c _ _ (by assumption) (by simp)) ?_ | refine q1 (by exact some_c _ (by assumption)) ?_ | refine q1d (by exact some_c _ (by assumption)) ?_ | refine q1 (by exact picked_c _ _ (by assumption) (by simp)) ?_ | refine q1d (by exact picked_c _ _ (by assumption) (by simp)) ?_ | refine q1 (by exact some_c _ (by assumption)) ?_ | refine q1d (by exact some_c _ (by assumption)) ?_ | refine q1 (by exact cut_c _ _ (by simp)) ?_ | refine q1d (by exact cut_c _ _ (by simp)) ?_) | (with_reducible refine CallZ.z ?_) | simp -dsimp [go_sem, hk, e, cmd6])
  all_goals simp_all [cmdOf, cmdText, coeCs, coeC]
theorem command2_c (kind key field n : Int) (text : ByteArray) (h1 : i64 kind) (h2 : i64 key) (h3 : i64 field) (h4 : i64 n) (hk : pk kind 22 = 2) : PCall Try.prog G 42 [.agg [iC kind, iC key, iC field, iC n, sC text]] (.agg (cmdOf (1 + pk kind 22) key field n text)) := by
  rw [hk]
  refine pcallc mixed Try.func42 ac_rostrumkeep_Command ?_
  have e : IntKind.i64.wrap (1 + 2) = 1 + 2 := by rfl
  simp -dsimp [go_sem]
  refine awp_join ⟨[(1, .one (.ptr 0 0)), (2, .one (.ptr 1 0)), (3, .one (.ptr 2 0))], G, [some (.box 59 [iC kind, iC key, iC field, iC n, sC text]), some (.box 40 [iC 0, sC ⟨#[]⟩, sC ⟨#[]⟩, sC ⟨#[]⟩, iC 0]), some (.box 40 [iC (1 + 2), sC (someS key), sC ⟨#[]⟩, sC ⟨#[]⟩, iC 0])]⟩ ?_ ?_
  repeat' (first | (with_reducible first | refine Cn (fun h => ?_) fun h => ?_ | refine And.intro ?_ ?_ | refine wR ?_ | exact wr _ _ | refine wa ?_ | apply awp_join | refine q1 (by exact picked_c _ _ (by assumption) (by simp)) ?_ | refine q1d (by exact picked_c _ _ (by assumption) (by simp)) ?_ | refine q1 (by exact some_c _ (by assumption)) ?_ | refine q1d (by exact some_c _ (by assumption)) ?_ | refine q1 (by exact picked_c _ _ (by assumption) (by simp)) ?_ | refine q1d (by exact picked_c _ _ (by assumption) (by simp)) ?_ | refine q1 (by exact some_c _ (by assumption)) ?_ | refine q1d (by exact some_c _ (by assumption)) ?_ | refine q1 (by exact cut_c _ _ (by simp)) ?_ | refine q1d (by exact cut_c _ _ (by simp)) ?_) | (with_reducible refine CallZ.z ?_) | simp -dsimp [go_sem, hk, e, cmd6])
  all_goals simp_all [cmdOf, cmdText, coeCs, coeC]
theorem command3_c (kind key field n : Int) (text : ByteArray) (h1 : i64 kind) (h2 : i64 key) (h3 : i64 field) (h4 : i64 n) (hk : pk kind 22 = 3) : PCall Try.prog G 42 [.agg [iC kind, iC key, iC field, iC n, sC text]] (.agg (cmdOf (1 + pk kind 22) key field n text)) := by
  rw [hk]
  refine pcallc mixed Try.func42 ac_rostrumkeep_Command ?_
  have e : IntKind.i64.wrap (1 + 3) = 1 + 3 := by rfl
  simp -dsimp [go_sem]
  refine awp_join ⟨[(1, .one (.ptr 0 0)), (2, .one (.ptr 1 0)), (3, .one (.ptr 2 0))], G, [some (.box 59 [iC kind, iC key, iC field, iC n, sC text]), some (.box 40 [iC 0, sC ⟨#[]⟩, sC ⟨#[]⟩, sC ⟨#[]⟩, iC 0]), some (.box 40 [iC (1 + 3), sC (someS key), sC ⟨#[]⟩, sC ⟨#[]⟩, iC 0])]⟩ ?_ ?_
  repeat' (first | (with_reducible first | refine Cn (fun h => ?_) fun h => ?_ | refine And.intro ?_ ?_ | refine wR ?_ | exact wr _ _ | refine wa ?_ | apply awp_join | refine q1 (by exact picked_c _ _ (by assumption) (by simp)) ?_ | refine q1d (by exact picked_c _ _ (by assumption) (by simp)) ?_ | refine q1 (by exact some_c _ (by assumption)) ?_ | refine q1d (by exact some_c _ (by assumption)) ?_ | refine q1 (by exact picked_c _ _ (by assumption) (by simp)) ?_ | refine q1d (by exact picked_c _ _ (by assumption) (by simp)) ?_ | refine q1 (by exact some_c _ (by assumption)) ?_ | refine q1d (by exact some_c _ (by assumption)) ?_ | refine q1 (by exact cut_c _ _ (by simp)) ?_ | refine q1d (by exact cut_c _ _ (by simp)) ?_) | (with_reducible refine CallZ.z ?_) | simp -dsimp [go_sem, hk, e, cmd6])
  all_goals simp_all [cmdOf, cmdText, coeCs, coeC]
theorem command4_c (kind key field n : Int) (text : ByteArray) (h1 : i64 kind) (h2 : i64 key) (h3 : i64 field) (h4 : i64 n) (hk : pk kind 22 = 4) : PCall Try.prog G 42 [.agg [iC kind, iC key, iC field, iC n, sC text]] (.agg (cmdOf (1 + pk kind 22) key field n text)) := by
  rw [hk]
  refine pcallc mixed Try.func42 ac_rostrumkeep_Command ?_
  have e : IntKind.i64.wrap (1 + 4) = 1 + 4 := by rfl
  simp -dsimp [go_sem]
  refine awp_join ⟨[(1, .one (.ptr 0 0)), (2, .one (.ptr 1 0)), (3, .one (.ptr 2 0))], G, [some (.box 59 [iC kind, iC key, iC field, iC n, sC text]), some (.box 40 [iC 0, sC ⟨#[]⟩, sC ⟨#[]⟩, sC ⟨#[]⟩, iC 0]), some (.box 40 [iC (1 + 4), sC (someS key), sC ⟨#[]⟩, sC ⟨#[]⟩, iC 0])]⟩ ?_ ?_
  repeat' (first | (with_reducible first | refine Cn (fun h => ?_) fun h => ?_ | refine And.intro ?_ ?_ | refine wR ?_ | exact wr _ _ | refine wa ?_ | apply awp_join | refine q1 (by exact picked_c _ _ (by assumption) (by simp)) ?_ | refine q1d (by exact picked_c _ _ (by assumption) (by simp)) ?_ | refine q1 (by exact some_c _ (by assumption)) ?_ | refine q1d (by exact some_c _ (by assumption)) ?_ | refine q1 (by exact picked_c _ _ (by assumption) (by simp)) ?_ | refine q1d (by exact picked_c _ _ (by assumption) (by simp)) ?_ | refine q1 (by exact some_c _ (by assumption)) ?_ | refine q1d (by exact some_c _ (by assumption)) ?_ | refine q1 (by exact cut_c _ _ (by simp)) ?_ | refine q1d (by exact cut_c _ _ (by simp)) ?_) | (with_reducible refine CallZ.z ?_) | simp -dsimp [go_sem, hk, e, cmd6])
  all_goals simp_all [cmdOf, cmdText, coeCs, coeC]
theorem command5_c (kind key field n : Int) (text : ByteArray) (h1 : i64 kind) (h2 : i64 key) (h3 : i64 field) (h4 : i64 n) (hk : pk kind 22 = 5) : PCall Try.prog G 42 [.agg [iC kind, iC key, iC field, iC n, sC text]] (.agg (cmdOf (1 + pk kind 22) key field n text)) := by
  rw [hk]
  refine pcallc mixed Try.func42 ac_rostrumkeep_Command ?_
  have e : IntKind.i64.wrap (1 + 5) = 1 + 5 := by rfl
  simp -dsimp [go_sem]
  refine awp_join ⟨[(1, .one (.ptr 0 0)), (2, .one (.ptr 1 0)), (3, .one (.ptr 2 0))], G, [some (.box 59 [iC kind, iC key, iC field, iC n, sC text]), some (.box 40 [iC 0, sC ⟨#[]⟩, sC ⟨#[]⟩, sC ⟨#[]⟩, iC 0]), some (.box 40 [iC (1 + 5), sC (someS key), sC ⟨#[]⟩, sC ⟨#[]⟩, iC 0])]⟩ ?_ ?_
  repeat' (first | (with_reducible first | refine Cn (fun h => ?_) fun h => ?_ | refine And.intro ?_ ?_ | refine wR ?_ | exact wr _ _ | refine wa ?_ | apply awp_join | refine q1 (by exact picked_c _ _ (by assumption) (by simp)) ?_ | refine q1d (by exact picked_c _ _ (by assumption) (by simp)) ?_ | refine q1 (by exact some_c _ (by assumption)) ?_ | refine q1d (by exact some_c _ (by assumption)) ?_ | refine q1 (by exact picked_c _ _ (by assumption) (by simp)) ?_ | refine q1d (by exact picked_c _ _ (by assumption) (by simp)) ?_ | refine q1 (by exact some_c _ (by assumption)) ?_ | refine q1d (by exact some_c _ (by assumption)) ?_ | refine q1 (by exact cut_c _ _ (by simp)) ?_ | refine q1d (by exact cut_c _ _ (by simp)) ?_) | (with_reducible refine CallZ.z ?_) | simp -dsimp [go_sem, hk, e, cmd6])
  all_goals simp_all [cmdOf, cmdText, coeCs, coeC]
theorem command6_c (kind key field n : Int) (text : ByteArray) (h1 : i64 kind) (h2 : i64 key) (h3 : i64 field) (h4 : i64 n) (hk : pk kind 22 = 6) : PCall Try.prog G 42 [.agg [iC kind, iC key, iC field, iC n, sC text]] (.agg (cmdOf (1 + pk kind 22) key field n text)) := by
  rw [hk]
  refine pcallc mixed Try.func42 ac_rostrumkeep_Command ?_
  have e : IntKind.i64.wrap (1 + 6) = 1 + 6 := by rfl
  simp -dsimp [go_sem]
  refine awp_join ⟨[(1, .one (.ptr 0 0)), (2, .one (.ptr 1 0)), (3, .one (.ptr 2 0))], G, [some (.box 59 [iC kind, iC key, iC field, iC n, sC text]), some (.box 40 [iC 0, sC ⟨#[]⟩, sC ⟨#[]⟩, sC ⟨#[]⟩, iC 0]), some (.box 40 [iC (1 + 6), sC (someS key), sC ⟨#[]⟩, sC ⟨#[]⟩, iC 0])]⟩ ?_ ?_
  repeat' (first | (with_reducible first | refine Cn (fun h => ?_) fun h => ?_ | refine And.intro ?_ ?_ | refine wR ?_ | exact wr _ _ | refine wa ?_ | apply awp_join | refine q1 (by exact picked_c _ _ (by assumption) (by simp)) ?_ | refine q1d (by exact picked_c _ _ (by assumption) (by simp)) ?_ | refine q1 (by exact some_c _ (by assumption)) ?_ | refine q1d (by exact some_c _ (by assumption)) ?_ | refine q1 (by exact picked_c _ _ (by assumption) (by simp)) ?_ | refine q1d (by exact picked_c _ _ (by assumption) (by simp)) ?_ | refine q1 (by exact some_c _ (by assumption)) ?_ | refine q1d (by exact some_c _ (by assumption)) ?_ | refine q1 (by exact cut_c _ _ (by simp)) ?_ | refine q1d (by exact cut_c _ _ (by simp)) ?_) | (with_reducible refine CallZ.z ?_) | simp -dsimp [go_sem, hk, e, cmd6])
  all_goals simp_all [cmdOf, cmdText, coeCs, coeC]
theorem command7_c (kind key field n : Int) (text : ByteArray) (h1 : i64 kind) (h2 : i64 key) (h3 : i64 field) (h4 : i64 n) (hk : pk kind 22 = 7) : PCall Try.prog G 42 [.agg [iC kind, iC key, iC field, iC n, sC text]] (.agg (cmdOf (1 + pk kind 22) key field n text)) := by
  rw [hk]
  refine pcallc mixed Try.func42 ac_rostrumkeep_Command ?_
  have e : IntKind.i64.wrap (1 + 7) = 1 + 7 := by rfl
  simp -dsimp [go_sem]
  refine awp_join ⟨[(1, .one (.ptr 0 0)), (2, .one (.ptr 1 0)), (3, .one (.ptr 2 0))], G, [some (.box 59 [iC kind, iC key, iC field, iC n, sC text]), some (.box 40 [iC 0, sC ⟨#[]⟩, sC ⟨#[]⟩, sC ⟨#[]⟩, iC 0]), some (.box 40 [iC (1 + 7), sC (someS key), sC ⟨#[]⟩, sC ⟨#[]⟩, iC 0])]⟩ ?_ ?_
  repeat' (first | (with_reducible first | refine Cn (fun h => ?_) fun h => ?_ | refine And.intro ?_ ?_ | refine wR ?_ | exact wr _ _ | refine wa ?_ | apply awp_join | refine q1 (by exact picked_c _ _ (by assumption) (by simp)) ?_ | refine q1d (by exact picked_c _ _ (by assumption) (by simp)) ?_ | refine q1 (by exact some_c _ (by assumption)) ?_ | refine q1d (by exact some_c _ (by assumption)) ?_ | refine q1 (by exact picked_c _ _ (by assumption) (by simp)) ?_ | refine q1d (by exact picked_c _ _ (by assumption) (by simp)) ?_ | refine q1 (by exact some_c _ (by assumption)) ?_ | refine q1d (by exact some_c _ (by assumption)) ?_ | refine q1 (by exact cut_c _ _ (by simp)) ?_ | refine q1d (by exact cut_c _ _ (by simp)) ?_) | (with_reducible refine CallZ.z ?_) | simp -dsimp [go_sem, hk, e, cmd6])
  all_goals simp_all [cmdOf, cmdText, coeCs, coeC]
theorem command8_c (kind key field n : Int) (text : ByteArray) (h1 : i64 kind) (h2 : i64 key) (h3 : i64 field) (h4 : i64 n) (hk : pk kind 22 = 8) : PCall Try.prog G 42 [.agg [iC kind, iC key, iC field, iC n, sC text]] (.agg (cmdOf (1 + pk kind 22) key field n text)) := by
  rw [hk]
  refine pcallc mixed Try.func42 ac_rostrumkeep_Command ?_
  have e : IntKind.i64.wrap (1 + 8) = 1 + 8 := by rfl
  simp -dsimp [go_sem]
  refine awp_join ⟨[(1, .one (.ptr 0 0)), (2, .one (.ptr 1 0)), (3, .one (.ptr 2 0))], G, [some (.box 59 [iC kind, iC key, iC field, iC n, sC text]), some (.box 40 [iC 0, sC ⟨#[]⟩, sC ⟨#[]⟩, sC ⟨#[]⟩, iC 0]), some (.box 40 [iC (1 + 8), sC (someS key), sC ⟨#[]⟩, sC ⟨#[]⟩, iC 0])]⟩ ?_ ?_
  repeat' (first | (with_reducible first | refine Cn (fun h => ?_) fun h => ?_ | refine And.intro ?_ ?_ | refine wR ?_ | exact wr _ _ | refine wa ?_ | apply awp_join | refine q1 (by exact picked_c _ _ (by assumption) (by simp)) ?_ | refine q1d (by exact picked_c _ _ (by assumption) (by simp)) ?_ | refine q1 (by exact some_c _ (by assumption)) ?_ | refine q1d (by exact some_c _ (by assumption)) ?_ | refine q1 (by exact picked_c _ _ (by assumption) (by simp)) ?_ | refine q1d (by exact picked_c _ _ (by assumption) (by simp)) ?_ | refine q1 (by exact some_c _ (by assumption)) ?_ | refine q1d (by exact some_c _ (by assumption)) ?_ | refine q1 (by exact cut_c _ _ (by simp)) ?_ | refine q1d (by exact cut_c _ _ (by simp)) ?_) | (with_reducible refine CallZ.z ?_) | simp -dsimp [go_sem, hk, e, cmd6])
  all_goals simp_all [cmdOf, cmdText, coeCs, coeC]
theorem command9_c (kind key field n : Int) (text : ByteArray) (h1 : i64 kind) (h2 : i64 key) (h3 : i64 field) (h4 : i64 n) (hk : pk kind 22 = 9) : PCall Try.prog G 42 [.agg [iC kind, iC key, iC field, iC n, sC text]] (.agg (cmdOf (1 + pk kind 22) key field n text)) := by
  rw [hk]
  refine pcallc mixed Try.func42 ac_rostrumkeep_Command ?_
  have e : IntKind.i64.wrap (1 + 9) = 1 + 9 := by rfl
  simp -dsimp [go_sem]
  refine awp_join ⟨[(1, .one (.ptr 0 0)), (2, .one (.ptr 1 0)), (3, .one (.ptr 2 0))], G, [some (.box 59 [iC kind, iC key, iC field, iC n, sC text]), some (.box 40 [iC 0, sC ⟨#[]⟩, sC ⟨#[]⟩, sC ⟨#[]⟩, iC 0]), some (.box 40 [iC (1 + 9), sC (someS key), sC ⟨#[]⟩, sC ⟨#[]⟩, iC 0])]⟩ ?_ ?_
  repeat' (first | (with_reducible first | refine Cn (fun h => ?_) fun h => ?_ | refine And.intro ?_ ?_ | refine wR ?_ | exact wr _ _ | refine wa ?_ | apply awp_join | refine q1 (by exact picked_c _ _ (by assumption) (by simp)) ?_ | refine q1d (by exact picked_c _ _ (by assumption) (by simp)) ?_ | refine q1 (by exact some_c _ (by assumption)) ?_ | refine q1d (by exact some_c _ (by assumption)) ?_ | refine q1 (by exact picked_c _ _ (by assumption) (by simp)) ?_ | refine q1d (by exact picked_c _ _ (by assumption) (by simp)) ?_ | refine q1 (by exact some_c _ (by assumption)) ?_ | refine q1d (by exact some_c _ (by assumption)) ?_ | refine q1 (by exact cut_c _ _ (by simp)) ?_ | refine q1d (by exact cut_c _ _ (by simp)) ?_) | (with_reducible refine CallZ.z ?_) | simp -dsimp [go_sem, hk, e, cmd6])
  all_goals simp_all [cmdOf, cmdText, coeCs, coeC]
theorem command10_c (kind key field n : Int) (text : ByteArray) (h1 : i64 kind) (h2 : i64 key) (h3 : i64 field) (h4 : i64 n) (hk : pk kind 22 = 10) : PCall Try.prog G 42 [.agg [iC kind, iC key, iC field, iC n, sC text]] (.agg (cmdOf (1 + pk kind 22) key field n text)) := by
  rw [hk]
  refine pcallc mixed Try.func42 ac_rostrumkeep_Command ?_
  have e : IntKind.i64.wrap (1 + 10) = 1 + 10 := by rfl
  simp -dsimp [go_sem]
  refine awp_join ⟨[(1, .one (.ptr 0 0)), (2, .one (.ptr 1 0)), (3, .one (.ptr 2 0))], G, [some (.box 59 [iC kind, iC key, iC field, iC n, sC text]), some (.box 40 [iC 0, sC ⟨#[]⟩, sC ⟨#[]⟩, sC ⟨#[]⟩, iC 0]), some (.box 40 [iC (1 + 10), sC (someS key), sC ⟨#[]⟩, sC ⟨#[]⟩, iC 0])]⟩ ?_ ?_
  repeat' (first | (with_reducible first | refine Cn (fun h => ?_) fun h => ?_ | refine And.intro ?_ ?_ | refine wR ?_ | exact wr _ _ | refine wa ?_ | apply awp_join | refine q1 (by exact picked_c _ _ (by assumption) (by simp)) ?_ | refine q1d (by exact picked_c _ _ (by assumption) (by simp)) ?_ | refine q1 (by exact some_c _ (by assumption)) ?_ | refine q1d (by exact some_c _ (by assumption)) ?_ | refine q1 (by exact picked_c _ _ (by assumption) (by simp)) ?_ | refine q1d (by exact picked_c _ _ (by assumption) (by simp)) ?_ | refine q1 (by exact some_c _ (by assumption)) ?_ | refine q1d (by exact some_c _ (by assumption)) ?_ | refine q1 (by exact cut_c _ _ (by simp)) ?_ | refine q1d (by exact cut_c _ _ (by simp)) ?_) | (with_reducible refine CallZ.z ?_) | simp -dsimp [go_sem, hk, e, cmd6])
  all_goals simp_all [cmdOf, cmdText, coeCs, coeC]
theorem command11_c (kind key field n : Int) (text : ByteArray) (h1 : i64 kind) (h2 : i64 key) (h3 : i64 field) (h4 : i64 n) (hk : pk kind 22 = 11) : PCall Try.prog G 42 [.agg [iC kind, iC key, iC field, iC n, sC text]] (.agg (cmdOf (1 + pk kind 22) key field n text)) := by
  rw [hk]
  refine pcallc mixed Try.func42 ac_rostrumkeep_Command ?_
  have e : IntKind.i64.wrap (1 + 11) = 1 + 11 := by rfl
  simp -dsimp [go_sem]
  refine awp_join ⟨[(1, .one (.ptr 0 0)), (2, .one (.ptr 1 0)), (3, .one (.ptr 2 0))], G, [some (.box 59 [iC kind, iC key, iC field, iC n, sC text]), some (.box 40 [iC 0, sC ⟨#[]⟩, sC ⟨#[]⟩, sC ⟨#[]⟩, iC 0]), some (.box 40 [iC (1 + 11), sC (someS key), sC ⟨#[]⟩, sC ⟨#[]⟩, iC 0])]⟩ ?_ ?_
  repeat' (first | (with_reducible first | refine Cn (fun h => ?_) fun h => ?_ | refine And.intro ?_ ?_ | refine wR ?_ | exact wr _ _ | refine wa ?_ | apply awp_join | refine q1 (by exact picked_c _ _ (by assumption) (by simp)) ?_ | refine q1d (by exact picked_c _ _ (by assumption) (by simp)) ?_ | refine q1 (by exact some_c _ (by assumption)) ?_ | refine q1d (by exact some_c _ (by assumption)) ?_ | refine q1 (by exact picked_c _ _ (by assumption) (by simp)) ?_ | refine q1d (by exact picked_c _ _ (by assumption) (by simp)) ?_ | refine q1 (by exact some_c _ (by assumption)) ?_ | refine q1d (by exact some_c _ (by assumption)) ?_ | refine q1 (by exact cut_c _ _ (by simp)) ?_ | refine q1d (by exact cut_c _ _ (by simp)) ?_) | (with_reducible refine CallZ.z ?_) | simp -dsimp [go_sem, hk, e, cmd6])
  all_goals simp_all [cmdOf, cmdText, coeCs, coeC]
theorem command12_c (kind key field n : Int) (text : ByteArray) (h1 : i64 kind) (h2 : i64 key) (h3 : i64 field) (h4 : i64 n) (hk : pk kind 22 = 12) : PCall Try.prog G 42 [.agg [iC kind, iC key, iC field, iC n, sC text]] (.agg (cmdOf (1 + pk kind 22) key field n text)) := by
  rw [hk]
  refine pcallc mixed Try.func42 ac_rostrumkeep_Command ?_
  have e : IntKind.i64.wrap (1 + 12) = 1 + 12 := by rfl
  simp -dsimp [go_sem]
  refine awp_join ⟨[(1, .one (.ptr 0 0)), (2, .one (.ptr 1 0)), (3, .one (.ptr 2 0))], G, [some (.box 59 [iC kind, iC key, iC field, iC n, sC text]), some (.box 40 [iC 0, sC ⟨#[]⟩, sC ⟨#[]⟩, sC ⟨#[]⟩, iC 0]), some (.box 40 [iC (1 + 12), sC (someS key), sC ⟨#[]⟩, sC ⟨#[]⟩, iC 0])]⟩ ?_ ?_
  repeat' (first | (with_reducible first | refine Cn (fun h => ?_) fun h => ?_ | refine And.intro ?_ ?_ | refine wR ?_ | exact wr _ _ | refine wa ?_ | apply awp_join | refine q1 (by exact picked_c _ _ (by assumption) (by simp)) ?_ | refine q1d (by exact picked_c _ _ (by assumption) (by simp)) ?_ | refine q1 (by exact some_c _ (by assumption)) ?_ | refine q1d (by exact some_c _ (by assumption)) ?_ | refine q1 (by exact picked_c _ _ (by assumption) (by simp)) ?_ | refine q1d (by exact picked_c _ _ (by assumption) (by simp)) ?_ | refine q1 (by exact some_c _ (by assumption)) ?_ | refine q1d (by exact some_c _ (by assumption)) ?_ | refine q1 (by exact cut_c _ _ (by simp)) ?_ | refine q1d (by exact cut_c _ _ (by simp)) ?_) | (with_reducible refine CallZ.z ?_) | simp -dsimp [go_sem, hk, e, cmd6])
  all_goals simp_all [cmdOf, cmdText, coeCs, coeC]
theorem command13_c (kind key field n : Int) (text : ByteArray) (h1 : i64 kind) (h2 : i64 key) (h3 : i64 field) (h4 : i64 n) (hk : pk kind 22 = 13) : PCall Try.prog G 42 [.agg [iC kind, iC key, iC field, iC n, sC text]] (.agg (cmdOf (1 + pk kind 22) key field n text)) := by
  rw [hk]
  refine pcallc mixed Try.func42 ac_rostrumkeep_Command ?_
  have e : IntKind.i64.wrap (1 + 13) = 1 + 13 := by rfl
  simp -dsimp [go_sem]
  refine awp_join ⟨[(1, .one (.ptr 0 0)), (2, .one (.ptr 1 0)), (3, .one (.ptr 2 0))], G, [some (.box 59 [iC kind, iC key, iC field, iC n, sC text]), some (.box 40 [iC 0, sC ⟨#[]⟩, sC ⟨#[]⟩, sC ⟨#[]⟩, iC 0]), some (.box 40 [iC (1 + 13), sC (someS key), sC ⟨#[]⟩, sC ⟨#[]⟩, iC 0])]⟩ ?_ ?_
  repeat' (first | (with_reducible first | refine Cn (fun h => ?_) fun h => ?_ | refine And.intro ?_ ?_ | refine wR ?_ | exact wr _ _ | refine wa ?_ | apply awp_join | refine q1 (by exact picked_c _ _ (by assumption) (by simp)) ?_ | refine q1d (by exact picked_c _ _ (by assumption) (by simp)) ?_ | refine q1 (by exact some_c _ (by assumption)) ?_ | refine q1d (by exact some_c _ (by assumption)) ?_ | refine q1 (by exact picked_c _ _ (by assumption) (by simp)) ?_ | refine q1d (by exact picked_c _ _ (by assumption) (by simp)) ?_ | refine q1 (by exact some_c _ (by assumption)) ?_ | refine q1d (by exact some_c _ (by assumption)) ?_ | refine q1 (by exact cut_c _ _ (by simp)) ?_ | refine q1d (by exact cut_c _ _ (by simp)) ?_) | (with_reducible refine CallZ.z ?_) | simp -dsimp [go_sem, hk, e, cmd6])
  all_goals simp_all [cmdOf, cmdText, coeCs, coeC]
theorem command14_c (kind key field n : Int) (text : ByteArray) (h1 : i64 kind) (h2 : i64 key) (h3 : i64 field) (h4 : i64 n) (hk : pk kind 22 = 14) : PCall Try.prog G 42 [.agg [iC kind, iC key, iC field, iC n, sC text]] (.agg (cmdOf (1 + pk kind 22) key field n text)) := by
  rw [hk]
  refine pcallc mixed Try.func42 ac_rostrumkeep_Command ?_
  have e : IntKind.i64.wrap (1 + 14) = 1 + 14 := by rfl
  simp -dsimp [go_sem]
  refine awp_join ⟨[(1, .one (.ptr 0 0)), (2, .one (.ptr 1 0)), (3, .one (.ptr 2 0))], G, [some (.box 59 [iC kind, iC key, iC field, iC n, sC text]), some (.box 40 [iC 0, sC ⟨#[]⟩, sC ⟨#[]⟩, sC ⟨#[]⟩, iC 0]), some (.box 40 [iC (1 + 14), sC (someS key), sC ⟨#[]⟩, sC ⟨#[]⟩, iC 0])]⟩ ?_ ?_
  repeat' (first | (with_reducible first | refine Cn (fun h => ?_) fun h => ?_ | refine And.intro ?_ ?_ | refine wR ?_ | exact wr _ _ | refine wa ?_ | apply awp_join | refine q1 (by exact picked_c _ _ (by assumption) (by simp)) ?_ | refine q1d (by exact picked_c _ _ (by assumption) (by simp)) ?_ | refine q1 (by exact some_c _ (by assumption)) ?_ | refine q1d (by exact some_c _ (by assumption)) ?_ | refine q1 (by exact picked_c _ _ (by assumption) (by simp)) ?_ | refine q1d (by exact picked_c _ _ (by assumption) (by simp)) ?_ | refine q1 (by exact some_c _ (by assumption)) ?_ | refine q1d (by exact some_c _ (by assumption)) ?_ | refine q1 (by exact cut_c _ _ (by simp)) ?_ | refine q1d (by exact cut_c _ _ (by simp)) ?_) | (with_reducible refine CallZ.z ?_) | simp -dsimp [go_sem, hk, e, cmd6])
  all_goals simp_all [cmdOf, cmdText, coeCs, coeC]
theorem command15_c (kind key field n : Int) (text : ByteArray) (h1 : i64 kind) (h2 : i64 key) (h3 : i64 field) (h4 : i64 n) (hk : pk kind 22 = 15) : PCall Try.prog G 42 [.agg [iC kind, iC key, iC field, iC n, sC text]] (.agg (cmdOf (1 + pk kind 22) key field n text)) := by
  rw [hk]
  refine pcallc mixed Try.func42 ac_rostrumkeep_Command ?_
  have e : IntKind.i64.wrap (1 + 15) = 1 + 15 := by rfl
  simp -dsimp [go_sem]
  refine awp_join ⟨[(1, .one (.ptr 0 0)), (2, .one (.ptr 1 0)), (3, .one (.ptr 2 0))], G, [some (.box 59 [iC kind, iC key, iC field, iC n, sC text]), some (.box 40 [iC 0, sC ⟨#[]⟩, sC ⟨#[]⟩, sC ⟨#[]⟩, iC 0]), some (.box 40 [iC (1 + 15), sC (someS key), sC ⟨#[]⟩, sC ⟨#[]⟩, iC 0])]⟩ ?_ ?_
  repeat' (first | (with_reducible first | refine Cn (fun h => ?_) fun h => ?_ | refine And.intro ?_ ?_ | refine wR ?_ | exact wr _ _ | refine wa ?_ | apply awp_join | refine q1 (by exact picked_c _ _ (by assumption) (by simp)) ?_ | refine q1d (by exact picked_c _ _ (by assumption) (by simp)) ?_ | refine q1 (by exact some_c _ (by assumption)) ?_ | refine q1d (by exact some_c _ (by assumption)) ?_ | refine q1 (by exact picked_c _ _ (by assumption) (by simp)) ?_ | refine q1d (by exact picked_c _ _ (by assumption) (by simp)) ?_ | refine q1 (by exact some_c _ (by assumption)) ?_ | refine q1d (by exact some_c _ (by assumption)) ?_ | refine q1 (by exact cut_c _ _ (by simp)) ?_ | refine q1d (by exact cut_c _ _ (by simp)) ?_) | (with_reducible refine CallZ.z ?_) | simp -dsimp [go_sem, hk, e, cmd6])
  all_goals simp_all [cmdOf, cmdText, coeCs, coeC]
theorem command16_c (kind key field n : Int) (text : ByteArray) (h1 : i64 kind) (h2 : i64 key) (h3 : i64 field) (h4 : i64 n) (hk : pk kind 22 = 16) : PCall Try.prog G 42 [.agg [iC kind, iC key, iC field, iC n, sC text]] (.agg (cmdOf (1 + pk kind 22) key field n text)) := by
  rw [hk]
  refine pcallc mixed Try.func42 ac_rostrumkeep_Command ?_
  have e : IntKind.i64.wrap (1 + 16) = 1 + 16 := by rfl
  simp -dsimp [go_sem]
  refine awp_join ⟨[(1, .one (.ptr 0 0)), (2, .one (.ptr 1 0)), (3, .one (.ptr 2 0))], G, [some (.box 59 [iC kind, iC key, iC field, iC n, sC text]), some (.box 40 [iC 0, sC ⟨#[]⟩, sC ⟨#[]⟩, sC ⟨#[]⟩, iC 0]), some (.box 40 [iC (1 + 16), sC (someS key), sC ⟨#[]⟩, sC ⟨#[]⟩, iC 0])]⟩ ?_ ?_
  repeat' (first | (with_reducible first | refine Cn (fun h => ?_) fun h => ?_ | refine And.intro ?_ ?_ | refine wR ?_ | exact wr _ _ | refine wa ?_ | apply awp_join | refine q1 (by exact picked_c _ _ (by assumption) (by simp)) ?_ | refine q1d (by exact picked_c _ _ (by assumption) (by simp)) ?_ | refine q1 (by exact some_c _ (by assumption)) ?_ | refine q1d (by exact some_c _ (by assumption)) ?_ | refine q1 (by exact picked_c _ _ (by assumption) (by simp)) ?_ | refine q1d (by exact picked_c _ _ (by assumption) (by simp)) ?_ | refine q1 (by exact some_c _ (by assumption)) ?_ | refine q1d (by exact some_c _ (by assumption)) ?_ | refine q1 (by exact cut_c _ _ (by simp)) ?_ | refine q1d (by exact cut_c _ _ (by simp)) ?_) | (with_reducible refine CallZ.z ?_) | simp -dsimp [go_sem, hk, e, cmd6])
  all_goals simp_all [cmdOf, cmdText, coeCs, coeC]
theorem command17_c (kind key field n : Int) (text : ByteArray) (h1 : i64 kind) (h2 : i64 key) (h3 : i64 field) (h4 : i64 n) (hk : pk kind 22 = 17) : PCall Try.prog G 42 [.agg [iC kind, iC key, iC field, iC n, sC text]] (.agg (cmdOf (1 + pk kind 22) key field n text)) := by
  rw [hk]
  refine pcallc mixed Try.func42 ac_rostrumkeep_Command ?_
  have e : IntKind.i64.wrap (1 + 17) = 1 + 17 := by rfl
  simp -dsimp [go_sem]
  refine awp_join ⟨[(1, .one (.ptr 0 0)), (2, .one (.ptr 1 0)), (3, .one (.ptr 2 0))], G, [some (.box 59 [iC kind, iC key, iC field, iC n, sC text]), some (.box 40 [iC 0, sC ⟨#[]⟩, sC ⟨#[]⟩, sC ⟨#[]⟩, iC 0]), some (.box 40 [iC (1 + 17), sC (someS key), sC ⟨#[]⟩, sC ⟨#[]⟩, iC 0])]⟩ ?_ ?_
  repeat' (first | (with_reducible first | refine Cn (fun h => ?_) fun h => ?_ | refine And.intro ?_ ?_ | refine wR ?_ | exact wr _ _ | refine wa ?_ | apply awp_join | refine q1 (by exact picked_c _ _ (by assumption) (by simp)) ?_ | refine q1d (by exact picked_c _ _ (by assumption) (by simp)) ?_ | refine q1 (by exact some_c _ (by assumption)) ?_ | refine q1d (by exact some_c _ (by assumption)) ?_ | refine q1 (by exact picked_c _ _ (by assumption) (by simp)) ?_ | refine q1d (by exact picked_c _ _ (by assumption) (by simp)) ?_ | refine q1 (by exact some_c _ (by assumption)) ?_ | refine q1d (by exact some_c _ (by assumption)) ?_ | refine q1 (by exact cut_c _ _ (by simp)) ?_ | refine q1d (by exact cut_c _ _ (by simp)) ?_) | (with_reducible refine CallZ.z ?_) | simp -dsimp [go_sem, hk, e, cmd6])
  all_goals simp_all [cmdOf, cmdText, coeCs, coeC]
theorem command18_c (kind key field n : Int) (text : ByteArray) (h1 : i64 kind) (h2 : i64 key) (h3 : i64 field) (h4 : i64 n) (hk : pk kind 22 = 18) : PCall Try.prog G 42 [.agg [iC kind, iC key, iC field, iC n, sC text]] (.agg (cmdOf (1 + pk kind 22) key field n text)) := by
  rw [hk]
  refine pcallc mixed Try.func42 ac_rostrumkeep_Command ?_
  have e : IntKind.i64.wrap (1 + 18) = 1 + 18 := by rfl
  simp -dsimp [go_sem]
  refine awp_join ⟨[(1, .one (.ptr 0 0)), (2, .one (.ptr 1 0)), (3, .one (.ptr 2 0))], G, [some (.box 59 [iC kind, iC key, iC field, iC n, sC text]), some (.box 40 [iC 0, sC ⟨#[]⟩, sC ⟨#[]⟩, sC ⟨#[]⟩, iC 0]), some (.box 40 [iC (1 + 18), sC (someS key), sC ⟨#[]⟩, sC ⟨#[]⟩, iC 0])]⟩ ?_ ?_
  repeat' (first | (with_reducible first | refine Cn (fun h => ?_) fun h => ?_ | refine And.intro ?_ ?_ | refine wR ?_ | exact wr _ _ | refine wa ?_ | apply awp_join | refine q1 (by exact picked_c _ _ (by assumption) (by simp)) ?_ | refine q1d (by exact picked_c _ _ (by assumption) (by simp)) ?_ | refine q1 (by exact some_c _ (by assumption)) ?_ | refine q1d (by exact some_c _ (by assumption)) ?_ | refine q1 (by exact picked_c _ _ (by assumption) (by simp)) ?_ | refine q1d (by exact picked_c _ _ (by assumption) (by simp)) ?_ | refine q1 (by exact some_c _ (by assumption)) ?_ | refine q1d (by exact some_c _ (by assumption)) ?_ | refine q1 (by exact cut_c _ _ (by simp)) ?_ | refine q1d (by exact cut_c _ _ (by simp)) ?_) | (with_reducible refine CallZ.z ?_) | simp -dsimp [go_sem, hk, e, cmd6])
  all_goals simp_all [cmdOf, cmdText, coeCs, coeC]
theorem command19_c (kind key field n : Int) (text : ByteArray) (h1 : i64 kind) (h2 : i64 key) (h3 : i64 field) (h4 : i64 n) (hk : pk kind 22 = 19) : PCall Try.prog G 42 [.agg [iC kind, iC key, iC field, iC n, sC text]] (.agg (cmdOf (1 + pk kind 22) key field n text)) := by
  rw [hk]
  refine pcallc mixed Try.func42 ac_rostrumkeep_Command ?_
  have e : IntKind.i64.wrap (1 + 19) = 1 + 19 := by rfl
  simp -dsimp [go_sem]
  refine awp_join ⟨[(1, .one (.ptr 0 0)), (2, .one (.ptr 1 0)), (3, .one (.ptr 2 0))], G, [some (.box 59 [iC kind, iC key, iC field, iC n, sC text]), some (.box 40 [iC 0, sC ⟨#[]⟩, sC ⟨#[]⟩, sC ⟨#[]⟩, iC 0]), some (.box 40 [iC (1 + 19), sC (someS key), sC ⟨#[]⟩, sC ⟨#[]⟩, iC 0])]⟩ ?_ ?_
  repeat' (first | (with_reducible first | refine Cn (fun h => ?_) fun h => ?_ | refine And.intro ?_ ?_ | refine wR ?_ | exact wr _ _ | refine wa ?_ | apply awp_join | refine q1 (by exact picked_c _ _ (by assumption) (by simp)) ?_ | refine q1d (by exact picked_c _ _ (by assumption) (by simp)) ?_ | refine q1 (by exact some_c _ (by assumption)) ?_ | refine q1d (by exact some_c _ (by assumption)) ?_ | refine q1 (by exact picked_c _ _ (by assumption) (by simp)) ?_ | refine q1d (by exact picked_c _ _ (by assumption) (by simp)) ?_ | refine q1 (by exact some_c _ (by assumption)) ?_ | refine q1d (by exact some_c _ (by assumption)) ?_ | refine q1 (by exact cut_c _ _ (by simp)) ?_ | refine q1d (by exact cut_c _ _ (by simp)) ?_) | (with_reducible refine CallZ.z ?_) | simp -dsimp [go_sem, hk, e, cmd6])
  all_goals simp_all [cmdOf, cmdText, coeCs, coeC]
theorem command20_c (kind key field n : Int) (text : ByteArray) (h1 : i64 kind) (h2 : i64 key) (h3 : i64 field) (h4 : i64 n) (hk : pk kind 22 = 20) : PCall Try.prog G 42 [.agg [iC kind, iC key, iC field, iC n, sC text]] (.agg (cmdOf (1 + pk kind 22) key field n text)) := by
  rw [hk]
  refine pcallc mixed Try.func42 ac_rostrumkeep_Command ?_
  have e : IntKind.i64.wrap (1 + 20) = 1 + 20 := by rfl
  simp -dsimp [go_sem]
  refine awp_join ⟨[(1, .one (.ptr 0 0)), (2, .one (.ptr 1 0)), (3, .one (.ptr 2 0))], G, [some (.box 59 [iC kind, iC key, iC field, iC n, sC text]), some (.box 40 [iC 0, sC ⟨#[]⟩, sC ⟨#[]⟩, sC ⟨#[]⟩, iC 0]), some (.box 40 [iC (1 + 20), sC (someS key), sC ⟨#[]⟩, sC ⟨#[]⟩, iC 0])]⟩ ?_ ?_
  repeat' (first | (with_reducible first | refine Cn (fun h => ?_) fun h => ?_ | refine And.intro ?_ ?_ | refine wR ?_ | exact wr _ _ | refine wa ?_ | apply awp_join | refine q1 (by exact picked_c _ _ (by assumption) (by simp)) ?_ | refine q1d (by exact picked_c _ _ (by assumption) (by simp)) ?_ | refine q1 (by exact some_c _ (by assumption)) ?_ | refine q1d (by exact some_c _ (by assumption)) ?_ | refine q1 (by exact picked_c _ _ (by assumption) (by simp)) ?_ | refine q1d (by exact picked_c _ _ (by assumption) (by simp)) ?_ | refine q1 (by exact some_c _ (by assumption)) ?_ | refine q1d (by exact some_c _ (by assumption)) ?_ | refine q1 (by exact cut_c _ _ (by simp)) ?_ | refine q1d (by exact cut_c _ _ (by simp)) ?_) | (with_reducible refine CallZ.z ?_) | simp -dsimp [go_sem, hk, e, cmd6])
  all_goals simp_all [cmdOf, cmdText, coeCs, coeC]
theorem command21_c (kind key field n : Int) (text : ByteArray) (h1 : i64 kind) (h2 : i64 key) (h3 : i64 field) (h4 : i64 n) (hk : pk kind 22 = 21) : PCall Try.prog G 42 [.agg [iC kind, iC key, iC field, iC n, sC text]] (.agg (cmdOf (1 + pk kind 22) key field n text)) := by
  rw [hk]
  refine pcallc mixed Try.func42 ac_rostrumkeep_Command ?_
  have e : IntKind.i64.wrap (1 + 21) = 1 + 21 := by rfl
  simp -dsimp [go_sem]
  refine awp_join ⟨[(1, .one (.ptr 0 0)), (2, .one (.ptr 1 0)), (3, .one (.ptr 2 0))], G, [some (.box 59 [iC kind, iC key, iC field, iC n, sC text]), some (.box 40 [iC 0, sC ⟨#[]⟩, sC ⟨#[]⟩, sC ⟨#[]⟩, iC 0]), some (.box 40 [iC (1 + 21), sC (someS key), sC ⟨#[]⟩, sC ⟨#[]⟩, iC 0])]⟩ ?_ ?_
  repeat' (first | (with_reducible first | refine Cn (fun h => ?_) fun h => ?_ | refine And.intro ?_ ?_ | refine wR ?_ | exact wr _ _ | refine wa ?_ | apply awp_join | refine q1 (by exact picked_c _ _ (by assumption) (by simp)) ?_ | refine q1d (by exact picked_c _ _ (by assumption) (by simp)) ?_ | refine q1 (by exact some_c _ (by assumption)) ?_ | refine q1d (by exact some_c _ (by assumption)) ?_ | refine q1 (by exact picked_c _ _ (by assumption) (by simp)) ?_ | refine q1d (by exact picked_c _ _ (by assumption) (by simp)) ?_ | refine q1 (by exact some_c _ (by assumption)) ?_ | refine q1d (by exact some_c _ (by assumption)) ?_ | refine q1 (by exact cut_c _ _ (by simp)) ?_ | refine q1d (by exact cut_c _ _ (by simp)) ?_) | (with_reducible refine CallZ.z ?_) | simp -dsimp [go_sem, hk, e, cmd6])
  all_goals simp_all [cmdOf, cmdText, coeCs, coeC]
theorem command_c (kind key field n : Int) (text : ByteArray) (h1 : i64 kind) (h2 : i64 key) (h3 : i64 field) (h4 : i64 n) : PCall Try.prog G 42 [.agg [iC kind, iC key, iC field, iC n, sC text]] (.agg (cmdOf (1 + pk kind 22) key field n text)) := by
  have hr := pk_range (n := kind) (m := 22) (by omega)
  have hk : pk kind 22 = 0 ∨ pk kind 22 = 1 ∨ pk kind 22 = 2 ∨ pk kind 22 = 3 ∨ pk kind 22 = 4 ∨ pk kind 22 = 5 ∨ pk kind 22 = 6 ∨ pk kind 22 = 7 ∨ pk kind 22 = 8 ∨ pk kind 22 = 9 ∨ pk kind 22 = 10 ∨ pk kind 22 = 11 ∨ pk kind 22 = 12 ∨ pk kind 22 = 13 ∨ pk kind 22 = 14 ∨ pk kind 22 = 15 ∨ pk kind 22 = 16 ∨ pk kind 22 = 17 ∨ pk kind 22 = 18 ∨ pk kind 22 = 19 ∨ pk kind 22 = 20 ∨ pk kind 22 = 21 := by omega
  rcases hk with hk | hk | hk | hk | hk | hk | hk | hk | hk | hk | hk | hk | hk | hk | hk | hk | hk | hk | hk | hk | hk | hk
  · exact command0_c kind key field n text h1 h2 h3 h4 hk
  · exact command1_c kind key field n text h1 h2 h3 h4 hk
  · exact command2_c kind key field n text h1 h2 h3 h4 hk
  · exact command3_c kind key field n text h1 h2 h3 h4 hk
  · exact command4_c kind key field n text h1 h2 h3 h4 hk
  · exact command5_c kind key field n text h1 h2 h3 h4 hk
  · exact command6_c kind key field n text h1 h2 h3 h4 hk
  · exact command7_c kind key field n text h1 h2 h3 h4 hk
  · exact command8_c kind key field n text h1 h2 h3 h4 hk
  · exact command9_c kind key field n text h1 h2 h3 h4 hk
  · exact command10_c kind key field n text h1 h2 h3 h4 hk
  · exact command11_c kind key field n text h1 h2 h3 h4 hk
  · exact command12_c kind key field n text h1 h2 h3 h4 hk
  · exact command13_c kind key field n text h1 h2 h3 h4 hk
  · exact command14_c kind key field n text h1 h2 h3 h4 hk
  · exact command15_c kind key field n text h1 h2 h3 h4 hk
  · exact command16_c kind key field n text h1 h2 h3 h4 hk
  · exact command17_c kind key field n text h1 h2 h3 h4 hk
  · exact command18_c kind key field n text h1 h2 h3 h4 hk
  · exact command19_c kind key field n text h1 h2 h3 h4 hk
  · exact command20_c kind key field n text h1 h2 h3 h4 hk
  · exact command21_c kind key field n text h1 h2 h3 h4 hk
end Go.Proofs.Ytpdcfljbabpakaa

/- What the checks of calls answer. -/
set_option linter.unusedVariables false
set_option linter.unusedSimpArgs false
set_option maxRecDepth 100000
set_option maxHeartbeats 8000000
namespace Go.Proofs.Ytpdcfljbabpakaa
open Go Go.RowKit Go.Proofs.AE
variable {G : Nat → AV}
def checkCall (client seq k : Int) (key field text : ByteArray) (n : Int) : Int :=
  if decide (client = 0) then (if (seq == 0 && (k == 0 && (decide (key = ⟨#[]⟩) && (decide (field = ⟨#[]⟩) && (decide (text = ⟨#[]⟩) && n == 0))))) then 0 else 8)
  else if okNumber client then (if okNumber seq then checkCommand k key field text n else 2) else 2
theorem checkCall_c (client seq k : Int) (key field text : ByteArray) (n : Int) : PCall Try.prog G 56 [.agg [iC client, iC seq, iC k, sC key, sC field, sC text, iC n]] (iV (checkCall client seq k key field text n)) := by
  refine pcallc mixed Try.func56 ac_client_CheckCall ?_
  repeat' (first | (with_reducible first | refine Cn (fun h => ?_) fun h => ?_ | refine And.intro ?_ ?_ | refine wR ?_ | exact wr _ _ | refine wa ?_ | apply awp_join | refine q (number_c _) ?_ | refine qd (number_c _) ?_ | refine qz (number_c _) ?_ | refine q (check_c _ _ _ _ _) ?_ | refine qd (check_c _ _ _ _ _) ?_ | refine qz (check_c _ _ _ _ _) ?_) | (with_reducible refine CallZ.z ?_) | simp -dsimp [go_sem])
  all_goals simp_all [checkCall]
  all_goals (intros; simp_all)
theorem checkCall_one {k : Int} {a b c : ByteArray} {x : Int} (q : Int) (h : checkCommand k a b c x = 0) : checkCall 1 q k a b c x = if okNumber q then 0 else 2 := by
  simp [checkCall, h, show okNumber 1 = true from rfl]
theorem checkCall_neg {k : Int} {a b c : ByteArray} {x q w : Int} (h : w < 0) : checkCall w q k a b c x = 2 := by
  have h1 : okNumber w = false := by simp only [okNumber, Bool.and_eq_false_iff, decide_eq_false_iff_not]; omega
  have h2 : w ≠ 0 := by omega
  simp [checkCall, h1, h2]
theorem cmd_ok (kind key field n : Int) (text : ByteArray) (h4 : i64 n) : ∀ k a b c m, cmdOf (1 + pk kind 22) key field n text = [iC k, sC a, sC b, sC c, iC m] → checkCommand k a b c m = 0 := by
  intro k a b c m h
  have hr := pk_range (n := kind) (m := 22) (by omega)
  have h60 := pk_range (n := n) (m := 60) (by omega)
  have h12 := pk_range (n := n) (m := 12) (by omega)
  have hs : ∀ x, okField (someS x) = true := fun x => rfl
  have hst : ∀ x, okText (someS x) = true := fun x => rfl
  have hc : okText (cmdText n text) = true := by
    unfold cmdText
    split
    · rfl
    · have := cutS_size text (n := 6) (by omega)
      simp only [okText, decide_eq_true_eq]
      omega
  have he : okText ⟨#[]⟩ = true := rfl
  have hn : okCount (n.tmod 1073741824) = true := by
    have h1 := Int.tmod_lt_of_pos n (b := 1073741824) (by omega)
    have h2 : -1073741824 < n.tmod 1073741824 := by
      rcases Int.le_total 0 n with h | h
      · have := Int.tmod_nonneg 1073741824 h; omega
      · have h3 := Int.tmod_lt_of_pos (-n) (b := 1073741824) (by omega)
        rw [Int.neg_tmod] at h3
        omega
    simp only [okCount, Bool.and_eq_true, decide_eq_true_eq]
    omega
  have hn0 : okCount 0 = true := rfl
  have hn1 : okCount (pk n 60) = true := by simp only [okCount, Bool.and_eq_true, decide_eq_true_eq]; omega
  have hn2 : okCount (pk n 12 - 6) = true := by simp only [okCount, Bool.and_eq_true, decide_eq_true_eq]; omega
  simp only [cmdOf, List.cons.injEq, C.v.injEq, V.lit.injEq, Value.int.injEq, Value.string.injEq, and_true, true_and] at h
  obtain ⟨rfl, rfl, rfl, rfl, rfl⟩ := h
  have hk : pk kind 22 = 0 ∨ pk kind 22 = 1 ∨ pk kind 22 = 2 ∨ pk kind 22 = 3 ∨ pk kind 22 = 4 ∨ pk kind 22 = 5 ∨ pk kind 22 = 6 ∨ pk kind 22 = 7 ∨ pk kind 22 = 8 ∨ pk kind 22 = 9 ∨ pk kind 22 = 10 ∨ pk kind 22 = 11 ∨ pk kind 22 = 12 ∨ pk kind 22 = 13 ∨ pk kind 22 = 14 ∨ pk kind 22 = 15 ∨ pk kind 22 = 16 ∨ pk kind 22 = 17 ∨ pk kind 22 = 18 ∨ pk kind 22 = 19 ∨ pk kind 22 = 20 ∨ pk kind 22 = 21 := by omega
  rcases hk with hk | hk | hk | hk | hk | hk | hk | hk | hk | hk | hk | hk | hk | hk | hk | hk | hk | hk | hk | hk | hk | hk
  all_goals simp [hk, checkCommand, formOk, hs, hst, hc, he, hn, hn0, hn1, hn2]
theorem nodup_le {α : Type} [DecidableEq α] : ∀ (l m : List α), l.Pairwise (· ≠ ·) → (∀ x ∈ l, x ∈ m) → l.length ≤ m.length
  | [], m, _, _ => Nat.zero_le _
  | x :: l, m, h, hm => by
    obtain ⟨h1, h2⟩ := List.pairwise_cons.1 h
    have hx := hm x (List.mem_cons_self ..)
    have := nodup_le l (m.erase x) h2 fun y hy => (List.mem_erase_of_ne fun e => h1 y hy e.symm).2 (hm y (List.mem_cons_of_mem _ hy))
    have hl := List.length_erase_of_mem hx
    have hp := List.length_pos_of_mem hx
    simp only [List.length_cons]; omega
def nine : List ByteArray := (List.range 9).map fun i => ⟨#[UInt8.ofNat (97 + i)]⟩
theorem some_nine (n : Int) : someS n ∈ nine := by
  have hp := pk_range (n := n) (m := 9) (by omega)
  unfold someS nine
  refine List.mem_map.2 ⟨(pk n 9).toNat, List.mem_range.2 (by omega), ?_⟩
  rw [show (97 + pk n 9).toNat = 97 + (pk n 9).toNat by omega]
end Go.Proofs.Ytpdcfljbabpakaa

/- What is given from outside, by its type. -/
set_option linter.unusedVariables false
set_option linter.unusedSimpArgs false
set_option maxRecDepth 100000
set_option maxHeartbeats 8000000
namespace Go.Proofs.Ytpdcfljbabpakaa
open Go Go.RowKit Go.Proofs.AE
theorem wf_i64 {n : Int} (h : (Lit.int .i64 n).wf = true) : i64 n := by
  rw [Lit.wf] at h
  simp only [Bool.and_eq_true, decide_eq_true_eq] at h
  exact h
theorem raw_wt {vs : List V} (h : WT Try.prog 3 59 vs) : ∃ (kind key field n : Int) (text : ByteArray), vs = [.lit (.int .i64 kind), .lit (.int .i64 key), .lit (.int .i64 field), .lit (.int .i64 n), .lit (.string text)] ∧
    i64 kind ∧ i64 key ∧ i64 field ∧ i64 n ∧ text.size ≤ maxLen := by
  simp [WT, ti59, ti3, ti9] at h
  obtain ⟨hl, ⟨a, ha, wa⟩, ⟨b, hb, wb⟩, ⟨c, hc, wc⟩, ⟨d, hd, wd⟩, ⟨s, he, we⟩⟩ := h
  match vs, hl with
  | [v0, v1, v2, v3, v4], _ =>
    simp at ha hb hc hd he
    subst ha hb hc hd he
    exact ⟨a, b, c, d, s, rfl, wf_i64 wa, wf_i64 wb, wf_i64 wc, wf_i64 wd, we⟩
theorem deed_wt {vs : List V} (h : WT Try.prog 4 61 vs) : ∃ (client off wait kind key field n : Int) (text : ByteArray), vs = [.lit (.int .i64 client), .lit (.int .i64 off), .lit (.int .i64 wait), .lit (.int .i64 kind), .lit (.int .i64 key), .lit (.int .i64 field), .lit (.int .i64 n), .lit (.string text)] ∧
    i64 client ∧ i64 off ∧ i64 wait ∧ i64 kind ∧ i64 key ∧ i64 field ∧ i64 n ∧ text.size ≤ maxLen := by
  obtain ⟨hl, hf⟩ := WT_struct ti61 rfl h
  obtain ⟨j0, e0, r0⟩ := hf (3, 0) (by simp)
  obtain ⟨j1, e1, r1⟩ := hf (3, 1) (by simp)
  obtain ⟨j2, e2, r2⟩ := hf (3, 2) (by simp)
  obtain ⟨j3, e3, r3⟩ := hf (59, 3) (by simp)
  rw [ti3] at e0 e1 e2
  rw [ti59] at e3
  cases e0; cases e1; cases e2; cases e3
  obtain ⟨a, b, c, d, s, q, k1, k2, k3, k4, k5⟩ := raw_wt r3
  simp [WT, ti3] at r0 r1 r2
  obtain ⟨x, hx, wx⟩ := r0
  obtain ⟨y, hy, wy⟩ := r1
  obtain ⟨z, hz, wz⟩ := r2
  match vs, hl with
  | [v0, v1, v2, v3, v4, v5, v6, v7], _ =>
    simp at hx hy hz q
    obtain ⟨rfl, rfl, rfl, rfl, rfl⟩ := q
    subst hx hy hz
    exact ⟨x, y, z, a, b, c, d, s, rfl, wf_i64 wx, wf_i64 wy, wf_i64 wz, k1, k2, k3, k4, k5⟩
structure Deed where
  client : Int
  off : Int
  wait : Int
  kind : Int
  key : Int
  field : Int
  n : Int
  text : ByteArray
abbrev iL (n : Int) : V := .lit (.int .i64 n)
abbrev sL (s : ByteArray) : V := .lit (.string s)
def Deed.row (d : Deed) : List V := [iL d.client, iL d.off, iL d.wait, iL d.kind, iL d.key, iL d.field, iL d.n, sL d.text]
structure Deed.Ok (d : Deed) : Prop where
  client : i64 d.client
  off : i64 d.off
  wait : i64 d.wait
  kind : i64 d.kind
  key : i64 d.key
  field : i64 d.field
  n : i64 d.n
theorem deeds_of : ∀ (rows : List (List V)), (∀ r ∈ rows, WT Try.prog 4 61 r) → ∃ ds : List Deed, rows = ds.map Deed.row ∧ ∀ d ∈ ds, d.Ok
  | [], _ => ⟨[], rfl, fun d h => by cases h⟩
  | r :: rows, h => by
    obtain ⟨ds, h1, h2⟩ := deeds_of rows fun r hr => h r (List.mem_cons_of_mem _ hr)
    obtain ⟨client, off, wait, kind, key, field, n, text, rfl, a, b, c, d, e, f, g, _⟩ := deed_wt (h r (List.mem_cons_self ..))
    refine ⟨⟨client, off, wait, kind, key, field, n, text⟩ :: ds, by rw [h1]; rfl, fun x hx => ?_⟩
    rcases List.mem_cons.1 hx with rfl | hx
    · exact ⟨a, b, c, d, e, f, g⟩
    · exact h2 x hx
end Go.Proofs.Ytpdcfljbabpakaa
