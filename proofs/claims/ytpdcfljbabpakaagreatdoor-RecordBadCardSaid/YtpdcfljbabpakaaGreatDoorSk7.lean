/- Texts joined. -/
import Derived.Test.YtpdcfljbabpakaaGreatDoorSk5
import Derived.Test.YtpdcfljbabpakaaGreatDoorSk6
set_option linter.unusedVariables false
set_option linter.unusedSimpArgs false
set_option maxRecDepth 100000
set_option maxHeartbeats 8000000
namespace Go.Proofs.YtpdcfljbabpakaaGreatDoor
open Go Go.RowKit Go.Proofs.AE
variable {G : Nat → AV}
theorem checkK4_c (v : Val) (hs : v.Small) (hk : v.kind = 4) : PCall Tryz.prog G 98 [.agg v.c] (iV (checkV v)) := by
  obtain ⟨k, t, n, p, l, s⟩ := v
  obtain ⟨s1, s2, s3⟩ := hs
  simp only at hk s1 s2 s3
  subst hk
  obtain ⟨b1, hb1⟩ : ∃ b, l.any longS = b := ⟨_, rfl⟩
  obtain ⟨b2, hb2⟩ : ∃ b, p.any badP = b := ⟨_, rfl⟩
  obtain ⟨b3, hb3⟩ : ∃ b, s.any longM = b := ⟨_, rfl⟩
  obtain ⟨b4, hb4⟩ : ∃ b, s.any farN = b := ⟨_, rfl⟩
  obtain ⟨b5, hb5⟩ : ∃ b, rising bF p = b := ⟨_, rfl⟩
  obtain ⟨b6, hb6⟩ : ∃ b, rising bS s = b := ⟨_, rfl⟩
  obtain ⟨b7, hb7⟩ : ∃ b, rising cmpB l = b := ⟨_, rfl⟩
  obtain ⟨b8, hb8⟩ : ∃ b, okText t = b := ⟨_, rfl⟩
  obtain ⟨b9, hb9⟩ : ∃ b, okCount n = b := ⟨_, rfl⟩
  obtain ⟨d, hd⟩ : ∃ b, (n != 0) = b := ⟨_, rfl⟩
  obtain ⟨d1, hd1⟩ : ∃ b, decide (t = ⟨#[]⟩) = b := ⟨_, rfl⟩
  have hC : checkV ⟨4, t, n, p, l, s⟩ = if ((4 != 1 && !d1) || (4 != 2 && d) || decide (0 < (if (4 : Int) = 3 then 0 else (p.length : Int)) + (if (4 : Int) = 4 ∨ (4 : Int) = 5 then 0 else (l.length : Int)) + (if (4 : Int) = 6 then 0 else (s.length : Int)))) = true then 8
      else if 3 ≤ (4 : Int) ∧ ((p.length : Int) + l.length + s.length < 1 ∨ 20 < (p.length : Int) + l.length + s.length) then 1 else if (!b8 || b1) = true then 1 else if b2 = true then 1 else if b3 = true then 1 else if (!b9 || b4) = true then 2
      else if ((b5 && b6 && (decide ((4 : Int) ≠ 5) || b7)) && onceB s s.length) = true then 0 else 10 := by
    simp only [checkV, Val.bad, Val.els, Val.order, Val.ord, hb1, hb2, hb3, hb4, hb5, hb6, hb7, hb8, hb9, ← hd, ← hd1]
    rw [if_neg (by decide), if_neg (by decide)]
    simp
  rw [hC]
  clear hC
  refine pcallc mixed Tryz.func98 ac_value_Check ?_
  unfold Val.c
  repeat' (first | (with_reducible first | refine Cn (fun h => ?_) fun h => ?_ | refine And.intro ?_ ?_ | refine wR ?_ | exact wr _ _ | refine wa ?_ | apply awp_join | refine q1 (by exact elements_c _ _ _ _ _ _ (by simp; omega)) ?_ | refine q1d (by exact elements_c _ _ _ _ _ _ (by simp; omega)) ?_ | refine q1 (by exact elements_c 4 n t [] (strRows l) (sR s) (by simp; omega)) ?_ | refine q1d (by exact elements_c 4 n t [] (strRows l) (sR s) (by simp; omega)) ?_ | refine q (elements_c 4 n t [] (strRows l) (sR s) (by simp; omega)) ?_ | refine qd (elements_c 4 n t [] (strRows l) (sR s) (by simp; omega)) ?_ | refine qz (elements_c 4 n t [] (strRows l) (sR s) (by simp; omega)) ?_ | refine q1 (by exact elements_c 4 n t (pR p) [] (sR s) (by simp; omega)) ?_ | refine q1d (by exact elements_c 4 n t (pR p) [] (sR s) (by simp; omega)) ?_ | refine q (elements_c 4 n t (pR p) [] (sR s) (by simp; omega)) ?_ | refine qd (elements_c 4 n t (pR p) [] (sR s) (by simp; omega)) ?_ | refine qz (elements_c 4 n t (pR p) [] (sR s) (by simp; omega)) ?_ | refine q1 (by exact elements_c 4 n t (pR p) (strRows l) [] (by simp; omega)) ?_ | refine q1d (by exact elements_c 4 n t (pR p) (strRows l) [] (by simp; omega)) ?_ | refine q (elements_c 4 n t (pR p) (strRows l) [] (by simp; omega)) ?_ | refine qd (elements_c 4 n t (pR p) (strRows l) [] (by simp; omega)) ?_ | refine qz (elements_c 4 n t (pR p) (strRows l) [] (by simp; omega)) ?_ | refine q (text_c _) ?_ | refine qd (text_c _) ?_ | refine qz (text_c _) ?_ | refine q1 (by exact containsFunc_c _ longS _ (by omega) en116 checkFn1_c) ?_ | refine q1d (by exact containsFunc_c _ longS _ (by omega) en116 checkFn1_c) ?_ | refine q1 (by exact containsFunc_api_Pair _ badP _ (by omega) en118 checkFn2_c) ?_ | refine q1d (by exact containsFunc_api_Pair _ badP _ (by omega) en118 checkFn2_c) ?_ | refine q1 (by exact containsFunc_api_Score _ longM _ (by omega) en121 checkFn3_c) ?_ | refine q1d (by exact containsFunc_api_Score _ longM _ (by omega) en121 checkFn3_c) ?_ | refine q (count_c _) ?_ | refine qd (count_c _) ?_ | refine qz (count_c _) ?_ | refine q1 (by exact containsFunc_api_Score _ farN _ (by omega) en123 checkFn4_c) ?_ | refine q1d (by exact containsFunc_api_Score _ farN _ (by omega) en123 checkFn4_c) ?_ | refine q1 (by exact rising_api_Pair _ bF _ (by omega) en125 byField_c) ?_ | refine q1d (by exact rising_api_Pair _ bF _ (by omega) en125 byField_c) ?_ | refine q1 (by exact rising_api_Score _ bS _ (by omega) en127 byScore_c) ?_ | refine q1d (by exact rising_api_Score _ bS _ (by omega) en127 byScore_c) ?_ | refine q1 (by exact rising_string _ cmpB _ (by omega) en129 stringsCompare_c) ?_ | refine q1d (by exact rising_string _ cmpB _ (by omega) en129 stringsCompare_c) ?_) | (with_reducible refine CallZ.z ?_) | simp -dsimp [go_sem, hb1, hb2, hb3, hb4, hb5, hb6, hb7, hb8, hb9, hd, hd1])
  all_goals first
    | (refine awp_loop (fun i : Nat => ⟨[(1, .one (.ptr 0 0)), (4, bV ((b5 && b6 && (decide ((4 : Int) ≠ 5) || b7)) && onceB s i)), (100, .one (.v (.sl (sR s)))), (101, iV s.length), (102, iV i)], G, [some (.box 117 (Val.mk 4 t n p l s).c)]⟩) (fun i => i ≤ s.length) (fun i => s.length - i) 0 (weak_auto ?_) (Nat.zero_le _) ?_
       · clear hb1 hb2 hb3 hb4 hb5 hb6 hb7 hb8 hb9 hd hd1
         simp_all -dsimp [go_sem, onceB, Val.c]
       · intro i hi
         have hul := ul_s s
         simp -dsimp [go_sem, Val.c]
         refine Cnd.intro (fun h => ?_) (fun h => ?_)
         · have hlt : i < s.length := by simpa using h
           obtain ⟨a, ha⟩ : ∃ a, s[i] = a := ⟨_, rfl⟩
           have hgi : s[i]? = some a := by rw [List.getElem?_eq_getElem hlt, ha]
           have w1 : IntKind.i64.wrap ((i : Int) + 1) = (i : Int) + 1 := IntWalk.i64_in _ (by omega)
           have hon := onceB_succ s hgi
           obtain ⟨o1, ho1⟩ : ∃ b, onceB s i = b := ⟨_, rfl⟩
           rw [ho1] at hon ⊢
           repeat' (first | (with_reducible first | refine Cn (fun h => ?_) fun h => ?_ | refine And.intro ?_ ?_ | refine wR ?_ | exact wr _ _ | refine wa ?_ | apply awp_join | refine q1 (by exact rank_c _ _ (by simp; omega)) ?_ | refine q1d (by exact rank_c _ _ (by simp; omega)) ?_) | (with_reducible refine CallZ.z ?_) | simp -dsimp [go_sem, hgi, w1, ← List.map_take])
           all_goals first
             | omega
             | assumption
             | (with_reducible refine Again.auto (i + 1) ?_ ?_ ?_)
           all_goals first
             | exact hlt
             | (show s.length - (i + 1) < s.length - i; omega)
             | (rw [hon]; clear hb1 hb2 hb3 hb4 hb5 hb6 hb7 hb8 hb9 hd hd1 hon; simp_all -dsimp [go_sem, Val.c]; done)
         · have hge : ¬ i < s.length := by simpa using h
           have : i = s.length := by omega
           subst this
           repeat' (first | (with_reducible first | refine Cn (fun h => ?_) fun h => ?_ | refine And.intro ?_ ?_ | refine wR ?_ | exact wr _ _ | refine wa ?_ | apply awp_join) | (with_reducible refine CallZ.z ?_) | simp -dsimp [go_sem])
           all_goals (clear hb1 hb2 hb3 hb4 hb5 hb6 hb7 hb8 hb9 hd hd1; (try simp_all); try first | omega | ((repeat' split) <;> first | rfl | omega | (exfalso; simp_all; done))))
    | (clear hb1 hb2 hb3 hb4 hb5 hb6 hb7 hb8 hb9 hd hd1; simp_all; done)
    | (clear hb1 hb2 hb3 hb4 hb5 hb6 hb7 hb8 hb9 hd hd1; simp_all; omega)
    | (clear hb1 hb2 hb3 hb4 hb5 hb6 hb7 hb8 hb9 hd hd1; simp_all; (try intros); (repeat' split) <;> first | rfl | omega | (simp_all; done) | (simp_all; omega))
theorem checkK5_c (v : Val) (hs : v.Small) (hk : v.kind = 5) : PCall Tryz.prog G 98 [.agg v.c] (iV (checkV v)) := by
  obtain ⟨k, t, n, p, l, s⟩ := v
  obtain ⟨s1, s2, s3⟩ := hs
  simp only at hk s1 s2 s3
  subst hk
  obtain ⟨b1, hb1⟩ : ∃ b, l.any longS = b := ⟨_, rfl⟩
  obtain ⟨b2, hb2⟩ : ∃ b, p.any badP = b := ⟨_, rfl⟩
  obtain ⟨b3, hb3⟩ : ∃ b, s.any longM = b := ⟨_, rfl⟩
  obtain ⟨b4, hb4⟩ : ∃ b, s.any farN = b := ⟨_, rfl⟩
  obtain ⟨b5, hb5⟩ : ∃ b, rising bF p = b := ⟨_, rfl⟩
  obtain ⟨b6, hb6⟩ : ∃ b, rising bS s = b := ⟨_, rfl⟩
  obtain ⟨b7, hb7⟩ : ∃ b, rising cmpB l = b := ⟨_, rfl⟩
  obtain ⟨b8, hb8⟩ : ∃ b, okText t = b := ⟨_, rfl⟩
  obtain ⟨b9, hb9⟩ : ∃ b, okCount n = b := ⟨_, rfl⟩
  obtain ⟨d, hd⟩ : ∃ b, (n != 0) = b := ⟨_, rfl⟩
  obtain ⟨d1, hd1⟩ : ∃ b, decide (t = ⟨#[]⟩) = b := ⟨_, rfl⟩
  have hC : checkV ⟨5, t, n, p, l, s⟩ = if ((5 != 1 && !d1) || (5 != 2 && d) || decide (0 < (if (5 : Int) = 3 then 0 else (p.length : Int)) + (if (5 : Int) = 4 ∨ (5 : Int) = 5 then 0 else (l.length : Int)) + (if (5 : Int) = 6 then 0 else (s.length : Int)))) = true then 8
      else if 3 ≤ (5 : Int) ∧ ((p.length : Int) + l.length + s.length < 1 ∨ 20 < (p.length : Int) + l.length + s.length) then 1 else if (!b8 || b1) = true then 1 else if b2 = true then 1 else if b3 = true then 1 else if (!b9 || b4) = true then 2
      else if ((b5 && b6 && (decide ((5 : Int) ≠ 5) || b7)) && onceB s s.length) = true then 0 else 10 := by
    simp only [checkV, Val.bad, Val.els, Val.order, Val.ord, hb1, hb2, hb3, hb4, hb5, hb6, hb7, hb8, hb9, ← hd, ← hd1]
    rw [if_neg (by decide), if_neg (by decide)]
    simp
  rw [hC]
  clear hC
  refine pcallc mixed Tryz.func98 ac_value_Check ?_
  unfold Val.c
  repeat' (first | (with_reducible first | refine Cn (fun h => ?_) fun h => ?_ | refine And.intro ?_ ?_ | refine wR ?_ | exact wr _ _ | refine wa ?_ | apply awp_join | refine q1 (by exact elements_c _ _ _ _ _ _ (by simp; omega)) ?_ | refine q1d (by exact elements_c _ _ _ _ _ _ (by simp; omega)) ?_ | refine q1 (by exact elements_c 5 n t [] (strRows l) (sR s) (by simp; omega)) ?_ | refine q1d (by exact elements_c 5 n t [] (strRows l) (sR s) (by simp; omega)) ?_ | refine q (elements_c 5 n t [] (strRows l) (sR s) (by simp; omega)) ?_ | refine qd (elements_c 5 n t [] (strRows l) (sR s) (by simp; omega)) ?_ | refine qz (elements_c 5 n t [] (strRows l) (sR s) (by simp; omega)) ?_ | refine q1 (by exact elements_c 5 n t (pR p) [] (sR s) (by simp; omega)) ?_ | refine q1d (by exact elements_c 5 n t (pR p) [] (sR s) (by simp; omega)) ?_ | refine q (elements_c 5 n t (pR p) [] (sR s) (by simp; omega)) ?_ | refine qd (elements_c 5 n t (pR p) [] (sR s) (by simp; omega)) ?_ | refine qz (elements_c 5 n t (pR p) [] (sR s) (by simp; omega)) ?_ | refine q1 (by exact elements_c 5 n t (pR p) (strRows l) [] (by simp; omega)) ?_ | refine q1d (by exact elements_c 5 n t (pR p) (strRows l) [] (by simp; omega)) ?_ | refine q (elements_c 5 n t (pR p) (strRows l) [] (by simp; omega)) ?_ | refine qd (elements_c 5 n t (pR p) (strRows l) [] (by simp; omega)) ?_ | refine qz (elements_c 5 n t (pR p) (strRows l) [] (by simp; omega)) ?_ | refine q (text_c _) ?_ | refine qd (text_c _) ?_ | refine qz (text_c _) ?_ | refine q1 (by exact containsFunc_c _ longS _ (by omega) en116 checkFn1_c) ?_ | refine q1d (by exact containsFunc_c _ longS _ (by omega) en116 checkFn1_c) ?_ | refine q1 (by exact containsFunc_api_Pair _ badP _ (by omega) en118 checkFn2_c) ?_ | refine q1d (by exact containsFunc_api_Pair _ badP _ (by omega) en118 checkFn2_c) ?_ | refine q1 (by exact containsFunc_api_Score _ longM _ (by omega) en121 checkFn3_c) ?_ | refine q1d (by exact containsFunc_api_Score _ longM _ (by omega) en121 checkFn3_c) ?_ | refine q (count_c _) ?_ | refine qd (count_c _) ?_ | refine qz (count_c _) ?_ | refine q1 (by exact containsFunc_api_Score _ farN _ (by omega) en123 checkFn4_c) ?_ | refine q1d (by exact containsFunc_api_Score _ farN _ (by omega) en123 checkFn4_c) ?_ | refine q1 (by exact rising_api_Pair _ bF _ (by omega) en125 byField_c) ?_ | refine q1d (by exact rising_api_Pair _ bF _ (by omega) en125 byField_c) ?_ | refine q1 (by exact rising_api_Score _ bS _ (by omega) en127 byScore_c) ?_ | refine q1d (by exact rising_api_Score _ bS _ (by omega) en127 byScore_c) ?_ | refine q1 (by exact rising_string _ cmpB _ (by omega) en129 stringsCompare_c) ?_ | refine q1d (by exact rising_string _ cmpB _ (by omega) en129 stringsCompare_c) ?_) | (with_reducible refine CallZ.z ?_) | simp -dsimp [go_sem, hb1, hb2, hb3, hb4, hb5, hb6, hb7, hb8, hb9, hd, hd1])
  all_goals first
    | (refine awp_loop (fun i : Nat => ⟨[(1, .one (.ptr 0 0)), (4, bV ((b5 && b6 && (decide ((5 : Int) ≠ 5) || b7)) && onceB s i)), (100, .one (.v (.sl (sR s)))), (101, iV s.length), (102, iV i)], G, [some (.box 117 (Val.mk 5 t n p l s).c)]⟩) (fun i => i ≤ s.length) (fun i => s.length - i) 0 (weak_auto ?_) (Nat.zero_le _) ?_
       · clear hb1 hb2 hb3 hb4 hb5 hb6 hb7 hb8 hb9 hd hd1
         simp_all -dsimp [go_sem, onceB, Val.c]
       · intro i hi
         have hul := ul_s s
         simp -dsimp [go_sem, Val.c]
         refine Cnd.intro (fun h => ?_) (fun h => ?_)
         · have hlt : i < s.length := by simpa using h
           obtain ⟨a, ha⟩ : ∃ a, s[i] = a := ⟨_, rfl⟩
           have hgi : s[i]? = some a := by rw [List.getElem?_eq_getElem hlt, ha]
           have w1 : IntKind.i64.wrap ((i : Int) + 1) = (i : Int) + 1 := IntWalk.i64_in _ (by omega)
           have hon := onceB_succ s hgi
           obtain ⟨o1, ho1⟩ : ∃ b, onceB s i = b := ⟨_, rfl⟩
           rw [ho1] at hon ⊢
           repeat' (first | (with_reducible first | refine Cn (fun h => ?_) fun h => ?_ | refine And.intro ?_ ?_ | refine wR ?_ | exact wr _ _ | refine wa ?_ | apply awp_join | refine q1 (by exact rank_c _ _ (by simp; omega)) ?_ | refine q1d (by exact rank_c _ _ (by simp; omega)) ?_) | (with_reducible refine CallZ.z ?_) | simp -dsimp [go_sem, hgi, w1, ← List.map_take])
           all_goals first
             | omega
             | assumption
             | (with_reducible refine Again.auto (i + 1) ?_ ?_ ?_)
           all_goals first
             | exact hlt
             | (show s.length - (i + 1) < s.length - i; omega)
             | (rw [hon]; clear hb1 hb2 hb3 hb4 hb5 hb6 hb7 hb8 hb9 hd hd1 hon; simp_all -dsimp [go_sem, Val.c]; done)
         · have hge : ¬ i < s.length := by simpa using h
           have : i = s.length := by omega
           subst this
           repeat' (first | (with_reducible first | refine Cn (fun h => ?_) fun h => ?_ | refine And.intro ?_ ?_ | refine wR ?_ | exact wr _ _ | refine wa ?_ | apply awp_join) | (with_reducible refine CallZ.z ?_) | simp -dsimp [go_sem])
           all_goals (clear hb1 hb2 hb3 hb4 hb5 hb6 hb7 hb8 hb9 hd hd1; (try simp_all); try first | omega | ((repeat' split) <;> first | rfl | omega | (exfalso; simp_all; done))))
    | (clear hb1 hb2 hb3 hb4 hb5 hb6 hb7 hb8 hb9 hd hd1; simp_all; done)
    | (clear hb1 hb2 hb3 hb4 hb5 hb6 hb7 hb8 hb9 hd hd1; simp_all; omega)
    | (clear hb1 hb2 hb3 hb4 hb5 hb6 hb7 hb8 hb9 hd hd1; simp_all; (try intros); (repeat' split) <;> first | rfl | omega | (simp_all; done) | (simp_all; omega))
theorem checkK6_c (v : Val) (hs : v.Small) (hk : v.kind = 6) : PCall Tryz.prog G 98 [.agg v.c] (iV (checkV v)) := by
  obtain ⟨k, t, n, p, l, s⟩ := v
  obtain ⟨s1, s2, s3⟩ := hs
  simp only at hk s1 s2 s3
  subst hk
  obtain ⟨b1, hb1⟩ : ∃ b, l.any longS = b := ⟨_, rfl⟩
  obtain ⟨b2, hb2⟩ : ∃ b, p.any badP = b := ⟨_, rfl⟩
  obtain ⟨b3, hb3⟩ : ∃ b, s.any longM = b := ⟨_, rfl⟩
  obtain ⟨b4, hb4⟩ : ∃ b, s.any farN = b := ⟨_, rfl⟩
  obtain ⟨b5, hb5⟩ : ∃ b, rising bF p = b := ⟨_, rfl⟩
  obtain ⟨b6, hb6⟩ : ∃ b, rising bS s = b := ⟨_, rfl⟩
  obtain ⟨b7, hb7⟩ : ∃ b, rising cmpB l = b := ⟨_, rfl⟩
  obtain ⟨b8, hb8⟩ : ∃ b, okText t = b := ⟨_, rfl⟩
  obtain ⟨b9, hb9⟩ : ∃ b, okCount n = b := ⟨_, rfl⟩
  obtain ⟨d, hd⟩ : ∃ b, (n != 0) = b := ⟨_, rfl⟩
  obtain ⟨d1, hd1⟩ : ∃ b, decide (t = ⟨#[]⟩) = b := ⟨_, rfl⟩
  have hC : checkV ⟨6, t, n, p, l, s⟩ = if ((6 != 1 && !d1) || (6 != 2 && d) || decide (0 < (if (6 : Int) = 3 then 0 else (p.length : Int)) + (if (6 : Int) = 4 ∨ (6 : Int) = 5 then 0 else (l.length : Int)) + (if (6 : Int) = 6 then 0 else (s.length : Int)))) = true then 8
      else if 3 ≤ (6 : Int) ∧ ((p.length : Int) + l.length + s.length < 1 ∨ 20 < (p.length : Int) + l.length + s.length) then 1 else if (!b8 || b1) = true then 1 else if b2 = true then 1 else if b3 = true then 1 else if (!b9 || b4) = true then 2
      else if ((b5 && b6 && (decide ((6 : Int) ≠ 5) || b7)) && onceB s s.length) = true then 0 else 10 := by
    simp only [checkV, Val.bad, Val.els, Val.order, Val.ord, hb1, hb2, hb3, hb4, hb5, hb6, hb7, hb8, hb9, ← hd, ← hd1]
    rw [if_neg (by decide), if_neg (by decide)]
    simp
  rw [hC]
  clear hC
  refine pcallc mixed Tryz.func98 ac_value_Check ?_
  unfold Val.c
  repeat' (first | (with_reducible first | refine Cn (fun h => ?_) fun h => ?_ | refine And.intro ?_ ?_ | refine wR ?_ | exact wr _ _ | refine wa ?_ | apply awp_join | refine q1 (by exact elements_c _ _ _ _ _ _ (by simp; omega)) ?_ | refine q1d (by exact elements_c _ _ _ _ _ _ (by simp; omega)) ?_ | refine q1 (by exact elements_c 6 n t [] (strRows l) (sR s) (by simp; omega)) ?_ | refine q1d (by exact elements_c 6 n t [] (strRows l) (sR s) (by simp; omega)) ?_ | refine q (elements_c 6 n t [] (strRows l) (sR s) (by simp; omega)) ?_ | refine qd (elements_c 6 n t [] (strRows l) (sR s) (by simp; omega)) ?_ | refine qz (elements_c 6 n t [] (strRows l) (sR s) (by simp; omega)) ?_ | refine q1 (by exact elements_c 6 n t (pR p) [] (sR s) (by simp; omega)) ?_ | refine q1d (by exact elements_c 6 n t (pR p) [] (sR s) (by simp; omega)) ?_ | refine q (elements_c 6 n t (pR p) [] (sR s) (by simp; omega)) ?_ | refine qd (elements_c 6 n t (pR p) [] (sR s) (by simp; omega)) ?_ | refine qz (elements_c 6 n t (pR p) [] (sR s) (by simp; omega)) ?_ | refine q1 (by exact elements_c 6 n t (pR p) (strRows l) [] (by simp; omega)) ?_ | refine q1d (by exact elements_c 6 n t (pR p) (strRows l) [] (by simp; omega)) ?_ | refine q (elements_c 6 n t (pR p) (strRows l) [] (by simp; omega)) ?_ | refine qd (elements_c 6 n t (pR p) (strRows l) [] (by simp; omega)) ?_ | refine qz (elements_c 6 n t (pR p) (strRows l) [] (by simp; omega)) ?_ | refine q (text_c _) ?_ | refine qd (text_c _) ?_ | refine qz (text_c _) ?_ | refine q1 (by exact containsFunc_c _ longS _ (by omega) en116 checkFn1_c) ?_ | refine q1d (by exact containsFunc_c _ longS _ (by omega) en116 checkFn1_c) ?_ | refine q1 (by exact containsFunc_api_Pair _ badP _ (by omega) en118 checkFn2_c) ?_ | refine q1d (by exact containsFunc_api_Pair _ badP _ (by omega) en118 checkFn2_c) ?_ | refine q1 (by exact containsFunc_api_Score _ longM _ (by omega) en121 checkFn3_c) ?_ | refine q1d (by exact containsFunc_api_Score _ longM _ (by omega) en121 checkFn3_c) ?_ | refine q (count_c _) ?_ | refine qd (count_c _) ?_ | refine qz (count_c _) ?_ | refine q1 (by exact containsFunc_api_Score _ farN _ (by omega) en123 checkFn4_c) ?_ | refine q1d (by exact containsFunc_api_Score _ farN _ (by omega) en123 checkFn4_c) ?_ | refine q1 (by exact rising_api_Pair _ bF _ (by omega) en125 byField_c) ?_ | refine q1d (by exact rising_api_Pair _ bF _ (by omega) en125 byField_c) ?_ | refine q1 (by exact rising_api_Score _ bS _ (by omega) en127 byScore_c) ?_ | refine q1d (by exact rising_api_Score _ bS _ (by omega) en127 byScore_c) ?_ | refine q1 (by exact rising_string _ cmpB _ (by omega) en129 stringsCompare_c) ?_ | refine q1d (by exact rising_string _ cmpB _ (by omega) en129 stringsCompare_c) ?_) | (with_reducible refine CallZ.z ?_) | simp -dsimp [go_sem, hb1, hb2, hb3, hb4, hb5, hb6, hb7, hb8, hb9, hd, hd1])
  all_goals first
    | (refine awp_loop (fun i : Nat => ⟨[(1, .one (.ptr 0 0)), (4, bV ((b5 && b6 && (decide ((6 : Int) ≠ 5) || b7)) && onceB s i)), (100, .one (.v (.sl (sR s)))), (101, iV s.length), (102, iV i)], G, [some (.box 117 (Val.mk 6 t n p l s).c)]⟩) (fun i => i ≤ s.length) (fun i => s.length - i) 0 (weak_auto ?_) (Nat.zero_le _) ?_
       · clear hb1 hb2 hb3 hb4 hb5 hb6 hb7 hb8 hb9 hd hd1
         simp_all -dsimp [go_sem, onceB, Val.c]
       · intro i hi
         have hul := ul_s s
         simp -dsimp [go_sem, Val.c]
         refine Cnd.intro (fun h => ?_) (fun h => ?_)
         · have hlt : i < s.length := by simpa using h
           obtain ⟨a, ha⟩ : ∃ a, s[i] = a := ⟨_, rfl⟩
           have hgi : s[i]? = some a := by rw [List.getElem?_eq_getElem hlt, ha]
           have w1 : IntKind.i64.wrap ((i : Int) + 1) = (i : Int) + 1 := IntWalk.i64_in _ (by omega)
           have hon := onceB_succ s hgi
           obtain ⟨o1, ho1⟩ : ∃ b, onceB s i = b := ⟨_, rfl⟩
           rw [ho1] at hon ⊢
           repeat' (first | (with_reducible first | refine Cn (fun h => ?_) fun h => ?_ | refine And.intro ?_ ?_ | refine wR ?_ | exact wr _ _ | refine wa ?_ | apply awp_join | refine q1 (by exact rank_c _ _ (by simp; omega)) ?_ | refine q1d (by exact rank_c _ _ (by simp; omega)) ?_) | (with_reducible refine CallZ.z ?_) | simp -dsimp [go_sem, hgi, w1, ← List.map_take])
           all_goals first
             | omega
             | assumption
             | (with_reducible refine Again.auto (i + 1) ?_ ?_ ?_)
           all_goals first
             | exact hlt
             | (show s.length - (i + 1) < s.length - i; omega)
             | (rw [hon]; clear hb1 hb2 hb3 hb4 hb5 hb6 hb7 hb8 hb9 hd hd1 hon; simp_all -dsimp [go_sem, Val.c]; done)
         · have hge : ¬ i < s.length := by simpa using h
           have : i = s.length := by omega
           subst this
           repeat' (first | (with_reducible first | refine Cn (fun h => ?_) fun h => ?_ | refine And.intro ?_ ?_ | refine wR ?_ | exact wr _ _ | refine wa ?_ | apply awp_join) | (with_reducible refine CallZ.z ?_) | simp -dsimp [go_sem])
           all_goals (clear hb1 hb2 hb3 hb4 hb5 hb6 hb7 hb8 hb9 hd hd1; (try simp_all); try first | omega | ((repeat' split) <;> first | rfl | omega | (exfalso; simp_all; done))))
    | (clear hb1 hb2 hb3 hb4 hb5 hb6 hb7 hb8 hb9 hd hd1; simp_all; done)
    | (clear hb1 hb2 hb3 hb4 hb5 hb6 hb7 hb8 hb9 hd hd1; simp_all; omega)
    | (clear hb1 hb2 hb3 hb4 hb5 hb6 hb7 hb8 hb9 hd hd1; simp_all; (try intros); (repeat' split) <;> first | rfl | omega | (simp_all; done) | (simp_all; omega))
end Go.Proofs.YtpdcfljbabpakaaGreatDoor
set_option linter.unusedVariables false
set_option linter.unusedSimpArgs false
set_option maxRecDepth 100000
set_option maxHeartbeats 8000000
namespace Go.Proofs.YtpdcfljbabpakaaGreatDoor
open Go Go.RowKit Go.Proofs.AE
variable {G : Nat → AV}
theorem checkV_c (v : Val) (hs : v.Small) : PCall Tryz.prog G 98 [.agg v.c] (iV (checkV v)) := by
  have hk : v.kind < 1 ∨ 6 < v.kind ∨ v.kind = 1 ∨ v.kind = 2 ∨ v.kind = 3 ∨ v.kind = 4 ∨ v.kind = 5 ∨ v.kind = 6 := by omega
  rcases hk with hk | hk | hk | hk | hk | hk | hk | hk
  · refine pcallc mixed Tryz.func98 ac_value_Check ?_
    simp -dsimp [go_sem, hk, checkV, Val.c]
  · refine pcallc mixed Tryz.func98 ac_value_Check ?_
    have h' : ¬ v.kind < 1 := by omega
    simp -dsimp [go_sem, hk, h', checkV, Val.c]
  · exact checkK1_c v hs hk
  · exact checkK2_c v hs hk
  · exact checkK3_c v hs hk
  · exact checkK4_c v hs hk
  · exact checkK5_c v hs hk
  · exact checkK6_c v hs hk
end Go.Proofs.YtpdcfljbabpakaaGreatDoor
set_option linter.unusedVariables false
set_option linter.unusedSimpArgs false
set_option maxRecDepth 100000
set_option maxHeartbeats 8000000
namespace Go.Proofs.YtpdcfljbabpakaaGreatDoor
open Go Go.RowKit Go.Proofs.AE
variable {G : Nat → AV}
def Val.isNone (v : Val) : Bool := (v.kind == 0 && decide (v.text = ⟨#[]⟩)) && v.count == 0 && v.els == 0
def kindOfC (k : Int) : Int := if k = 2 then 1 else if k = 3 then 2 else if 4 ≤ k ∧ k ≤ 6 then 3 else if 7 ≤ k ∧ k ≤ 10 then 4 else if 11 ≤ k ∧ k ≤ 13 then 5 else if 14 ≤ k ∧ k ≤ 16 then 6 else 0
def makesC (k : Int) : Bool := k == 1 || k == 3 || k == 4 || k == 7 || k == 8 || k == 11 || k == 14
def zeroV : Val := ⟨0, ⟨#[]⟩, 0, [], [], []⟩
def checkC (c : Cmd) : Int := checkCommand c.kind c.key c.field c.text c.n
def DoV (v : Val) (c : Cmd) : Val × Rep × Int :=
  if checkV v ≠ 0 ∧ v.isNone = false then (zeroV, toldR 0, checkV v)
  else if checkC c ≠ 0 then (zeroV, toldR 0, checkC c)
  else if 18 < c.kind then (zeroV, toldR 0, 3)
  else if v.isNone = true ∧ makesC c.kind = false then (v, failR 5, 0)
  else if v.isNone = false ∧ ((kindOfC c.kind ≠ 0 ∧ kindOfC c.kind ≠ v.kind) ∨ (17 ≤ c.kind ∧ v.kind < 3)) then (v, failR 4, 0)
  else if (doV (if v.isNone = true then { v with kind := kindOfC c.kind } else v) c).2.code ≠ 0 then (v, (doV (if v.isNone = true then { v with kind := kindOfC c.kind } else v) c).2, 0)
  else if 3 ≤ (doV (if v.isNone = true then { v with kind := kindOfC c.kind } else v) c).1.kind ∧ (doV (if v.isNone = true then { v with kind := kindOfC c.kind } else v) c).1.els = 0 then (zeroV, (doV (if v.isNone = true then { v with kind := kindOfC c.kind } else v) c).2, 0)
  else ((doV (if v.isNone = true then { v with kind := kindOfC c.kind } else v) c).1, (doV (if v.isNone = true then { v with kind := kindOfC c.kind } else v) c).2, 0)
abbrev DoA (q : Val × Rep × Int) : AV := .tup [.agg q.1.c, .agg q.2.1.c, iV q.2.2]
theorem kindOf1_c : PCall Tryz.prog G 151 [iV 1] (iV (kindOfC 1)) := by
  refine pcallc mixed Tryz.func151 ac_value_kindOf ?_
  unfold kindOfC
  repeat' (first | (with_reducible first | refine Cn (fun h => ?_) fun h => ?_ | refine And.intro ?_ ?_ | refine wR ?_ | exact wr _ _ | refine wa ?_ | apply awp_join) | (with_reducible refine CallZ.z ?_) | simp -dsimp [go_sem])
theorem makes1_c : PCall Tryz.prog G 152 [iV 1] (bV (makesC 1)) := by
  refine pcallc mixed Tryz.func152 ac_value_makes ?_
  unfold makesC
  repeat' (first | (with_reducible first | refine Cn (fun h => ?_) fun h => ?_ | refine And.intro ?_ ?_ | refine wR ?_ | exact wr _ _ | refine wa ?_ | apply awp_join) | (with_reducible refine CallZ.z ?_) | simp -dsimp [go_sem])
theorem kindOf2_c : PCall Tryz.prog G 151 [iV 2] (iV (kindOfC 2)) := by
  refine pcallc mixed Tryz.func151 ac_value_kindOf ?_
  unfold kindOfC
  repeat' (first | (with_reducible first | refine Cn (fun h => ?_) fun h => ?_ | refine And.intro ?_ ?_ | refine wR ?_ | exact wr _ _ | refine wa ?_ | apply awp_join) | (with_reducible refine CallZ.z ?_) | simp -dsimp [go_sem])
theorem makes2_c : PCall Tryz.prog G 152 [iV 2] (bV (makesC 2)) := by
  refine pcallc mixed Tryz.func152 ac_value_makes ?_
  unfold makesC
  repeat' (first | (with_reducible first | refine Cn (fun h => ?_) fun h => ?_ | refine And.intro ?_ ?_ | refine wR ?_ | exact wr _ _ | refine wa ?_ | apply awp_join) | (with_reducible refine CallZ.z ?_) | simp -dsimp [go_sem])
theorem kindOf3_c : PCall Tryz.prog G 151 [iV 3] (iV (kindOfC 3)) := by
  refine pcallc mixed Tryz.func151 ac_value_kindOf ?_
  unfold kindOfC
  repeat' (first | (with_reducible first | refine Cn (fun h => ?_) fun h => ?_ | refine And.intro ?_ ?_ | refine wR ?_ | exact wr _ _ | refine wa ?_ | apply awp_join) | (with_reducible refine CallZ.z ?_) | simp -dsimp [go_sem])
theorem makes3_c : PCall Tryz.prog G 152 [iV 3] (bV (makesC 3)) := by
  refine pcallc mixed Tryz.func152 ac_value_makes ?_
  unfold makesC
  repeat' (first | (with_reducible first | refine Cn (fun h => ?_) fun h => ?_ | refine And.intro ?_ ?_ | refine wR ?_ | exact wr _ _ | refine wa ?_ | apply awp_join) | (with_reducible refine CallZ.z ?_) | simp -dsimp [go_sem])
theorem kindOf4_c : PCall Tryz.prog G 151 [iV 4] (iV (kindOfC 4)) := by
  refine pcallc mixed Tryz.func151 ac_value_kindOf ?_
  unfold kindOfC
  repeat' (first | (with_reducible first | refine Cn (fun h => ?_) fun h => ?_ | refine And.intro ?_ ?_ | refine wR ?_ | exact wr _ _ | refine wa ?_ | apply awp_join) | (with_reducible refine CallZ.z ?_) | simp -dsimp [go_sem])
theorem makes4_c : PCall Tryz.prog G 152 [iV 4] (bV (makesC 4)) := by
  refine pcallc mixed Tryz.func152 ac_value_makes ?_
  unfold makesC
  repeat' (first | (with_reducible first | refine Cn (fun h => ?_) fun h => ?_ | refine And.intro ?_ ?_ | refine wR ?_ | exact wr _ _ | refine wa ?_ | apply awp_join) | (with_reducible refine CallZ.z ?_) | simp -dsimp [go_sem])
theorem kindOf5_c : PCall Tryz.prog G 151 [iV 5] (iV (kindOfC 5)) := by
  refine pcallc mixed Tryz.func151 ac_value_kindOf ?_
  unfold kindOfC
  repeat' (first | (with_reducible first | refine Cn (fun h => ?_) fun h => ?_ | refine And.intro ?_ ?_ | refine wR ?_ | exact wr _ _ | refine wa ?_ | apply awp_join) | (with_reducible refine CallZ.z ?_) | simp -dsimp [go_sem])
theorem makes5_c : PCall Tryz.prog G 152 [iV 5] (bV (makesC 5)) := by
  refine pcallc mixed Tryz.func152 ac_value_makes ?_
  unfold makesC
  repeat' (first | (with_reducible first | refine Cn (fun h => ?_) fun h => ?_ | refine And.intro ?_ ?_ | refine wR ?_ | exact wr _ _ | refine wa ?_ | apply awp_join) | (with_reducible refine CallZ.z ?_) | simp -dsimp [go_sem])
theorem kindOf6_c : PCall Tryz.prog G 151 [iV 6] (iV (kindOfC 6)) := by
  refine pcallc mixed Tryz.func151 ac_value_kindOf ?_
  unfold kindOfC
  repeat' (first | (with_reducible first | refine Cn (fun h => ?_) fun h => ?_ | refine And.intro ?_ ?_ | refine wR ?_ | exact wr _ _ | refine wa ?_ | apply awp_join) | (with_reducible refine CallZ.z ?_) | simp -dsimp [go_sem])
theorem makes6_c : PCall Tryz.prog G 152 [iV 6] (bV (makesC 6)) := by
  refine pcallc mixed Tryz.func152 ac_value_makes ?_
  unfold makesC
  repeat' (first | (with_reducible first | refine Cn (fun h => ?_) fun h => ?_ | refine And.intro ?_ ?_ | refine wR ?_ | exact wr _ _ | refine wa ?_ | apply awp_join) | (with_reducible refine CallZ.z ?_) | simp -dsimp [go_sem])
theorem kindOf7_c : PCall Tryz.prog G 151 [iV 7] (iV (kindOfC 7)) := by
  refine pcallc mixed Tryz.func151 ac_value_kindOf ?_
  unfold kindOfC
  repeat' (first | (with_reducible first | refine Cn (fun h => ?_) fun h => ?_ | refine And.intro ?_ ?_ | refine wR ?_ | exact wr _ _ | refine wa ?_ | apply awp_join) | (with_reducible refine CallZ.z ?_) | simp -dsimp [go_sem])
theorem makes7_c : PCall Tryz.prog G 152 [iV 7] (bV (makesC 7)) := by
  refine pcallc mixed Tryz.func152 ac_value_makes ?_
  unfold makesC
  repeat' (first | (with_reducible first | refine Cn (fun h => ?_) fun h => ?_ | refine And.intro ?_ ?_ | refine wR ?_ | exact wr _ _ | refine wa ?_ | apply awp_join) | (with_reducible refine CallZ.z ?_) | simp -dsimp [go_sem])
theorem kindOf8_c : PCall Tryz.prog G 151 [iV 8] (iV (kindOfC 8)) := by
  refine pcallc mixed Tryz.func151 ac_value_kindOf ?_
  unfold kindOfC
  repeat' (first | (with_reducible first | refine Cn (fun h => ?_) fun h => ?_ | refine And.intro ?_ ?_ | refine wR ?_ | exact wr _ _ | refine wa ?_ | apply awp_join) | (with_reducible refine CallZ.z ?_) | simp -dsimp [go_sem])
theorem makes8_c : PCall Tryz.prog G 152 [iV 8] (bV (makesC 8)) := by
  refine pcallc mixed Tryz.func152 ac_value_makes ?_
  unfold makesC
  repeat' (first | (with_reducible first | refine Cn (fun h => ?_) fun h => ?_ | refine And.intro ?_ ?_ | refine wR ?_ | exact wr _ _ | refine wa ?_ | apply awp_join) | (with_reducible refine CallZ.z ?_) | simp -dsimp [go_sem])
theorem kindOf9_c : PCall Tryz.prog G 151 [iV 9] (iV (kindOfC 9)) := by
  refine pcallc mixed Tryz.func151 ac_value_kindOf ?_
  unfold kindOfC
  repeat' (first | (with_reducible first | refine Cn (fun h => ?_) fun h => ?_ | refine And.intro ?_ ?_ | refine wR ?_ | exact wr _ _ | refine wa ?_ | apply awp_join) | (with_reducible refine CallZ.z ?_) | simp -dsimp [go_sem])
theorem makes9_c : PCall Tryz.prog G 152 [iV 9] (bV (makesC 9)) := by
  refine pcallc mixed Tryz.func152 ac_value_makes ?_
  unfold makesC
  repeat' (first | (with_reducible first | refine Cn (fun h => ?_) fun h => ?_ | refine And.intro ?_ ?_ | refine wR ?_ | exact wr _ _ | refine wa ?_ | apply awp_join) | (with_reducible refine CallZ.z ?_) | simp -dsimp [go_sem])
theorem kindOf10_c : PCall Tryz.prog G 151 [iV 10] (iV (kindOfC 10)) := by
  refine pcallc mixed Tryz.func151 ac_value_kindOf ?_
  unfold kindOfC
  repeat' (first | (with_reducible first | refine Cn (fun h => ?_) fun h => ?_ | refine And.intro ?_ ?_ | refine wR ?_ | exact wr _ _ | refine wa ?_ | apply awp_join) | (with_reducible refine CallZ.z ?_) | simp -dsimp [go_sem])
theorem makes10_c : PCall Tryz.prog G 152 [iV 10] (bV (makesC 10)) := by
  refine pcallc mixed Tryz.func152 ac_value_makes ?_
  unfold makesC
  repeat' (first | (with_reducible first | refine Cn (fun h => ?_) fun h => ?_ | refine And.intro ?_ ?_ | refine wR ?_ | exact wr _ _ | refine wa ?_ | apply awp_join) | (with_reducible refine CallZ.z ?_) | simp -dsimp [go_sem])
theorem kindOf11_c : PCall Tryz.prog G 151 [iV 11] (iV (kindOfC 11)) := by
  refine pcallc mixed Tryz.func151 ac_value_kindOf ?_
  unfold kindOfC
  repeat' (first | (with_reducible first | refine Cn (fun h => ?_) fun h => ?_ | refine And.intro ?_ ?_ | refine wR ?_ | exact wr _ _ | refine wa ?_ | apply awp_join) | (with_reducible refine CallZ.z ?_) | simp -dsimp [go_sem])
theorem makes11_c : PCall Tryz.prog G 152 [iV 11] (bV (makesC 11)) := by
  refine pcallc mixed Tryz.func152 ac_value_makes ?_
  unfold makesC
  repeat' (first | (with_reducible first | refine Cn (fun h => ?_) fun h => ?_ | refine And.intro ?_ ?_ | refine wR ?_ | exact wr _ _ | refine wa ?_ | apply awp_join) | (with_reducible refine CallZ.z ?_) | simp -dsimp [go_sem])
theorem kindOf12_c : PCall Tryz.prog G 151 [iV 12] (iV (kindOfC 12)) := by
  refine pcallc mixed Tryz.func151 ac_value_kindOf ?_
  unfold kindOfC
  repeat' (first | (with_reducible first | refine Cn (fun h => ?_) fun h => ?_ | refine And.intro ?_ ?_ | refine wR ?_ | exact wr _ _ | refine wa ?_ | apply awp_join) | (with_reducible refine CallZ.z ?_) | simp -dsimp [go_sem])
theorem makes12_c : PCall Tryz.prog G 152 [iV 12] (bV (makesC 12)) := by
  refine pcallc mixed Tryz.func152 ac_value_makes ?_
  unfold makesC
  repeat' (first | (with_reducible first | refine Cn (fun h => ?_) fun h => ?_ | refine And.intro ?_ ?_ | refine wR ?_ | exact wr _ _ | refine wa ?_ | apply awp_join) | (with_reducible refine CallZ.z ?_) | simp -dsimp [go_sem])
theorem kindOf13_c : PCall Tryz.prog G 151 [iV 13] (iV (kindOfC 13)) := by
  refine pcallc mixed Tryz.func151 ac_value_kindOf ?_
  unfold kindOfC
  repeat' (first | (with_reducible first | refine Cn (fun h => ?_) fun h => ?_ | refine And.intro ?_ ?_ | refine wR ?_ | exact wr _ _ | refine wa ?_ | apply awp_join) | (with_reducible refine CallZ.z ?_) | simp -dsimp [go_sem])
theorem makes13_c : PCall Tryz.prog G 152 [iV 13] (bV (makesC 13)) := by
  refine pcallc mixed Tryz.func152 ac_value_makes ?_
  unfold makesC
  repeat' (first | (with_reducible first | refine Cn (fun h => ?_) fun h => ?_ | refine And.intro ?_ ?_ | refine wR ?_ | exact wr _ _ | refine wa ?_ | apply awp_join) | (with_reducible refine CallZ.z ?_) | simp -dsimp [go_sem])
theorem kindOf14_c : PCall Tryz.prog G 151 [iV 14] (iV (kindOfC 14)) := by
  refine pcallc mixed Tryz.func151 ac_value_kindOf ?_
  unfold kindOfC
  repeat' (first | (with_reducible first | refine Cn (fun h => ?_) fun h => ?_ | refine And.intro ?_ ?_ | refine wR ?_ | exact wr _ _ | refine wa ?_ | apply awp_join) | (with_reducible refine CallZ.z ?_) | simp -dsimp [go_sem])
theorem makes14_c : PCall Tryz.prog G 152 [iV 14] (bV (makesC 14)) := by
  refine pcallc mixed Tryz.func152 ac_value_makes ?_
  unfold makesC
  repeat' (first | (with_reducible first | refine Cn (fun h => ?_) fun h => ?_ | refine And.intro ?_ ?_ | refine wR ?_ | exact wr _ _ | refine wa ?_ | apply awp_join) | (with_reducible refine CallZ.z ?_) | simp -dsimp [go_sem])
theorem kindOf15_c : PCall Tryz.prog G 151 [iV 15] (iV (kindOfC 15)) := by
  refine pcallc mixed Tryz.func151 ac_value_kindOf ?_
  unfold kindOfC
  repeat' (first | (with_reducible first | refine Cn (fun h => ?_) fun h => ?_ | refine And.intro ?_ ?_ | refine wR ?_ | exact wr _ _ | refine wa ?_ | apply awp_join) | (with_reducible refine CallZ.z ?_) | simp -dsimp [go_sem])
theorem makes15_c : PCall Tryz.prog G 152 [iV 15] (bV (makesC 15)) := by
  refine pcallc mixed Tryz.func152 ac_value_makes ?_
  unfold makesC
  repeat' (first | (with_reducible first | refine Cn (fun h => ?_) fun h => ?_ | refine And.intro ?_ ?_ | refine wR ?_ | exact wr _ _ | refine wa ?_ | apply awp_join) | (with_reducible refine CallZ.z ?_) | simp -dsimp [go_sem])
theorem kindOf16_c : PCall Tryz.prog G 151 [iV 16] (iV (kindOfC 16)) := by
  refine pcallc mixed Tryz.func151 ac_value_kindOf ?_
  unfold kindOfC
  repeat' (first | (with_reducible first | refine Cn (fun h => ?_) fun h => ?_ | refine And.intro ?_ ?_ | refine wR ?_ | exact wr _ _ | refine wa ?_ | apply awp_join) | (with_reducible refine CallZ.z ?_) | simp -dsimp [go_sem])
theorem makes16_c : PCall Tryz.prog G 152 [iV 16] (bV (makesC 16)) := by
  refine pcallc mixed Tryz.func152 ac_value_makes ?_
  unfold makesC
  repeat' (first | (with_reducible first | refine Cn (fun h => ?_) fun h => ?_ | refine And.intro ?_ ?_ | refine wR ?_ | exact wr _ _ | refine wa ?_ | apply awp_join) | (with_reducible refine CallZ.z ?_) | simp -dsimp [go_sem])
theorem kindOf17_c : PCall Tryz.prog G 151 [iV 17] (iV (kindOfC 17)) := by
  refine pcallc mixed Tryz.func151 ac_value_kindOf ?_
  unfold kindOfC
  repeat' (first | (with_reducible first | refine Cn (fun h => ?_) fun h => ?_ | refine And.intro ?_ ?_ | refine wR ?_ | exact wr _ _ | refine wa ?_ | apply awp_join) | (with_reducible refine CallZ.z ?_) | simp -dsimp [go_sem])
theorem makes17_c : PCall Tryz.prog G 152 [iV 17] (bV (makesC 17)) := by
  refine pcallc mixed Tryz.func152 ac_value_makes ?_
  unfold makesC
  repeat' (first | (with_reducible first | refine Cn (fun h => ?_) fun h => ?_ | refine And.intro ?_ ?_ | refine wR ?_ | exact wr _ _ | refine wa ?_ | apply awp_join) | (with_reducible refine CallZ.z ?_) | simp -dsimp [go_sem])
theorem kindOf18_c : PCall Tryz.prog G 151 [iV 18] (iV (kindOfC 18)) := by
  refine pcallc mixed Tryz.func151 ac_value_kindOf ?_
  unfold kindOfC
  repeat' (first | (with_reducible first | refine Cn (fun h => ?_) fun h => ?_ | refine And.intro ?_ ?_ | refine wR ?_ | exact wr _ _ | refine wa ?_ | apply awp_join) | (with_reducible refine CallZ.z ?_) | simp -dsimp [go_sem])
theorem makes18_c : PCall Tryz.prog G 152 [iV 18] (bV (makesC 18)) := by
  refine pcallc mixed Tryz.func152 ac_value_makes ?_
  unfold makesC
  repeat' (first | (with_reducible first | refine Cn (fun h => ?_) fun h => ?_ | refine And.intro ?_ ?_ | refine wR ?_ | exact wr _ _ | refine wa ?_ | apply awp_join) | (with_reducible refine CallZ.z ?_) | simp -dsimp [go_sem])
theorem none_zero {v : Val} (h : v.isNone = true) : v = zeroV := by
  obtain ⟨k, t, n, p, l, s⟩ := v
  unfold Val.isNone Val.els at h
  simp at h
  obtain ⟨⟨⟨h1, h2⟩, h3⟩, h4⟩ := h
  have e1 : p = [] := List.eq_nil_of_length_eq_zero (by omega)
  have e2 : l = [] := List.eq_nil_of_length_eq_zero (by omega)
  have e3 : s = [] := List.eq_nil_of_length_eq_zero (by omega)
  subst h1; subst h2; subst h3; subst e1; subst e2; subst e3
  rfl
theorem zero_none : zeroV.isNone = true := by decide
theorem check_zero : checkV zeroV = 3 := by simp [checkV, zeroV]
theorem kind_ok {v : Val} (h : checkV v = 0) : 1 ≤ v.kind ∧ v.kind ≤ 6 := by
  unfold checkV at h
  by_cases h1 : v.kind < 1
  · rw [if_pos h1] at h; cases h
  · by_cases h2 : 6 < v.kind
    · rw [if_neg h1, if_pos h2] at h; cases h
    · omega
theorem none_kind {v : Val} (h : 1 ≤ v.kind) : v.isNone = false := by
  unfold Val.isNone
  have : (v.kind == 0) = false := by simp; omega
  simp [this]
theorem doBad_c (v : Val) (c : Cmd) (hs : v.Small) (h : checkV v ≠ 0) (hn : v.isNone = false) : PCall Tryz.prog G 138 [.agg v.c, .agg c.c] (DoA (zeroV, toldR 0, checkV v)) := by
  have hc := checkV_c (G := G) v hs
  obtain ⟨e, he⟩ : ∃ e, checkV v = e := ⟨_, rfl⟩
  rw [he] at h hc ⊢
  obtain ⟨k, t, n, p, l, s⟩ := v
  obtain ⟨s1, s2, s3⟩ := hs
  simp only at s1 s2 s3
  have hel := elements_c (G := G) k n t (pR p) (strRows l) (sR s) (by simp; omega)
  have hq : (e == 0) = false := by simpa using h
  have hq2 : (e != 0) = true := by simpa using h
  unfold Val.isNone Val.els at hn
  simp only [pR, sR, List.length_map] at hel
  simp only [DoA, Val.c, Cmd.c, Rep.c, toldR, zeroV] at hn hc ⊢
  refine pcallc mixed Tryz.func138 ac_value_Do ?_
  repeat' (first | (with_reducible first | refine Cn (fun h => ?_) fun h => ?_ | refine And.intro ?_ ?_ | refine wR ?_ | exact wr _ _ | refine wa ?_ | apply awp_join | refine q hel ?_ | refine qd hel ?_ | refine qz hel ?_ | refine q hc ?_ | refine qd hc ?_ | refine qz hc ?_) | (with_reducible refine CallZ.z ?_) | simp -dsimp [go_sem, hq, hq2])
  all_goals (exfalso; clear hel hc; simp at *; simp_all)
  all_goals omega
theorem doC_c (v : Val) (c : Cmd) (hs : v.Small) (h : checkV v = 0 ∨ v.isNone = true) (hc : checkC c ≠ 0) : PCall Tryz.prog G 138 [.agg v.c, .agg c.c] (DoA (zeroV, toldR 0, checkC c)) := by
  have hv := checkV_c (G := G) v hs
  have hk := check_c (G := G) c.kind c.key c.field c.text c.n
  change PCall Tryz.prog G _ _ (iV (checkC c)) at hk
  generalize checkC c = e at *
  obtain ⟨kk, key, f, tx, cn⟩ := c
  have hq : (e == 0) = false := by simpa using hc
  have hq2 : (e != 0) = true := by simpa using hc
  rcases h with h | h
  · have hk' := (kind_ok h).1
    rw [h] at hv
    obtain ⟨k, t, n, p, l, s⟩ := v
    simp only at hk'
    have hk0 : (k == 0) = false := by simp; omega
    simp only [DoA, Val.c, Cmd.c, Rep.c, toldR, zeroV] at hk hv ⊢
    refine pcallc mixed Tryz.func138 ac_value_Do ?_
    repeat' (first | (with_reducible first | refine Cn (fun h => ?_) fun h => ?_ | refine And.intro ?_ ?_ | refine wR ?_ | exact wr _ _ | refine wa ?_ | apply awp_join | refine q hv ?_ | refine qd hv ?_ | refine qz hv ?_ | refine q hk ?_ | refine qd hk ?_ | refine qz hk ?_) | (with_reducible refine CallZ.z ?_) | simp -dsimp [go_sem, hq, hq2, hk0])
  · have := none_zero h
    subst this
    rw [check_zero] at hv
    have hel := elements_c (G := G) 0 0 ⟨#[]⟩ [] [] [] (by simp)
    simp only [DoA, Val.c, Cmd.c, Rep.c, toldR, zeroV] at hk hv ⊢
    refine pcallc mixed Tryz.func138 ac_value_Do ?_
    repeat' (first | (with_reducible first | refine Cn (fun h => ?_) fun h => ?_ | refine And.intro ?_ ?_ | refine wR ?_ | exact wr _ _ | refine wa ?_ | apply awp_join | refine q hel ?_ | refine qd hel ?_ | refine qz hel ?_ | refine q hv ?_ | refine qd hv ?_ | refine qz hv ?_ | refine q hk ?_ | refine qd hk ?_ | refine qz hk ?_) | (with_reducible refine CallZ.z ?_) | simp -dsimp [go_sem, hq, hq2])
theorem doBig_c (v : Val) (c : Cmd) (hs : v.Small) (h : checkV v = 0 ∨ v.isNone = true) (hc : checkC c = 0) (hb : 18 < c.kind) : PCall Tryz.prog G 138 [.agg v.c, .agg c.c] (DoA (zeroV, toldR 0, 3)) := by
  have hv := checkV_c (G := G) v hs
  have hk := check_c (G := G) c.kind c.key c.field c.text c.n
  change PCall Tryz.prog G _ _ (iV (checkC c)) at hk
  rw [hc] at hk
  obtain ⟨kk, key, f, tx, cn⟩ := c
  simp only at hb
  have hq : decide (18 < kk) = true := by simpa using hb
  rcases h with h | h
  · have hk' := (kind_ok h).1
    rw [h] at hv
    obtain ⟨k, t, n, p, l, s⟩ := v
    simp only at hk'
    have hk0 : (k == 0) = false := by simp; omega
    simp only [DoA, Val.c, Cmd.c, Rep.c, toldR, zeroV] at hk hv ⊢
    refine pcallc mixed Tryz.func138 ac_value_Do ?_
    repeat' (first | (with_reducible first | refine Cn (fun h => ?_) fun h => ?_ | refine And.intro ?_ ?_ | refine wR ?_ | exact wr _ _ | refine wa ?_ | apply awp_join | refine q hv ?_ | refine qd hv ?_ | refine qz hv ?_ | refine q hk ?_ | refine qd hk ?_ | refine qz hk ?_) | (with_reducible refine CallZ.z ?_) | simp -dsimp [go_sem, hq, hk0])
  · have := none_zero h
    subst this
    rw [check_zero] at hv
    have hel := elements_c (G := G) 0 0 ⟨#[]⟩ [] [] [] (by simp)
    simp only [DoA, Val.c, Cmd.c, Rep.c, toldR, zeroV] at hk hv ⊢
    refine pcallc mixed Tryz.func138 ac_value_Do ?_
    repeat' (first | (with_reducible first | refine Cn (fun h => ?_) fun h => ?_ | refine And.intro ?_ ?_ | refine wR ?_ | exact wr _ _ | refine wa ?_ | apply awp_join | refine q hel ?_ | refine qd hel ?_ | refine qz hel ?_ | refine q hv ?_ | refine qd hv ?_ | refine qz hv ?_ | refine q hk ?_ | refine qd hk ?_ | refine qz hk ?_) | (with_reducible refine CallZ.z ?_) | simp -dsimp [go_sem, hq])
end Go.Proofs.YtpdcfljbabpakaaGreatDoor
set_option linter.unusedVariables false
set_option linter.unusedSimpArgs false
set_option maxRecDepth 100000
set_option maxHeartbeats 8000000
namespace Go.Proofs.YtpdcfljbabpakaaGreatDoor
open Go Go.RowKit Go.Proofs.AE
variable {G : Nat → AV}
def DoEnd (v : Val) (q : Val × Rep) : Val × Rep × Int := if q.2.code ≠ 0 then (v, q.2, 0) else if 3 ≤ q.1.kind ∧ q.1.els = 0 then (zeroV, q.2, 0) else (q.1, q.2, 0)
theorem DoV_go {v : Val} {c : Cmd} (h : checkV v = 0) (hc : checkC c = 0) (hk : c.kind ≤ 18) (hm : ¬ ((kindOfC c.kind ≠ 0 ∧ kindOfC c.kind ≠ v.kind) ∨ (17 ≤ c.kind ∧ v.kind < 3))) : DoV v c = DoEnd v (doV v c) := by
  have hn := none_kind (kind_ok h).1
  unfold DoV DoEnd
  rw [hn]
  simp only [Bool.false_eq_true, if_false, false_and, true_and]
  rw [if_neg (by rw [h]; simp), if_neg (by rw [hc]; simp), if_neg (by omega), if_neg hm]
theorem DoV_type {v : Val} {c : Cmd} (h : checkV v = 0) (hc : checkC c = 0) (hk : c.kind ≤ 18) (hm : (kindOfC c.kind ≠ 0 ∧ kindOfC c.kind ≠ v.kind) ∨ (17 ≤ c.kind ∧ v.kind < 3)) : DoV v c = (v, failR 4, 0) := by
  have hn := none_kind (kind_ok h).1
  unfold DoV
  rw [hn]
  simp only [Bool.false_eq_true, if_false, false_and, true_and]
  rw [if_neg (by rw [h]; simp), if_neg (by rw [hc]; simp), if_neg (by omega), if_pos hm]
theorem DoEnd_fail {v : Val} {q : Val × Rep} (h : q.2.code ≠ 0) : DoEnd v q = (v, q.2, 0) := by unfold DoEnd; rw [if_pos h]
theorem DoEnd_none {v : Val} {q : Val × Rep} (h : q.2.code = 0) (h2 : 3 ≤ q.1.kind) (h3 : q.1.els = 0) : DoEnd v q = (zeroV, q.2, 0) := by unfold DoEnd; rw [if_neg (by rw [h]; simp), if_pos ⟨h2, h3⟩]
theorem DoEnd_some {v : Val} {q : Val × Rep} (h : q.2.code = 0) (h3 : ¬ (3 ≤ q.1.kind ∧ q.1.els = 0)) : DoEnd v q = (q.1, q.2, 0) := by unfold DoEnd; rw [if_neg (by rw [h]; simp), if_neg h3]
theorem doV_kind {v : Val} {c : Cmd} (h : 4 ≤ c.kind) : (doV v c).1.kind = v.kind := by
  unfold doV
  rw [if_neg (by omega), if_neg (by omega), if_neg (by omega)]
  repeat' split
  all_goals rfl
theorem kind_c (k : Int) (h1 : 1 ≤ k) (h2 : k ≤ 18) : PCall Tryz.prog G 151 [iV k] (iV (kindOfC k)) ∧ PCall Tryz.prog G 152 [iV k] (bV (makesC k)) := by
  have : k = 1 ∨ k = 2 ∨ k = 3 ∨ k = 4 ∨ k = 5 ∨ k = 6 ∨ k = 7 ∨ k = 8 ∨ k = 9 ∨ k = 10 ∨ k = 11 ∨ k = 12 ∨ k = 13 ∨ k = 14 ∨ k = 15 ∨ k = 16 ∨ k = 17 ∨ k = 18 := by omega
  rcases this with h | h | h | h | h | h | h | h | h | h | h | h | h | h | h | h | h | h <;> subst h
  · exact ⟨kindOf1_c, makes1_c⟩
  · exact ⟨kindOf2_c, makes2_c⟩
  · exact ⟨kindOf3_c, makes3_c⟩
  · exact ⟨kindOf4_c, makes4_c⟩
  · exact ⟨kindOf5_c, makes5_c⟩
  · exact ⟨kindOf6_c, makes6_c⟩
  · exact ⟨kindOf7_c, makes7_c⟩
  · exact ⟨kindOf8_c, makes8_c⟩
  · exact ⟨kindOf9_c, makes9_c⟩
  · exact ⟨kindOf10_c, makes10_c⟩
  · exact ⟨kindOf11_c, makes11_c⟩
  · exact ⟨kindOf12_c, makes12_c⟩
  · exact ⟨kindOf13_c, makes13_c⟩
  · exact ⟨kindOf14_c, makes14_c⟩
  · exact ⟨kindOf15_c, makes15_c⟩
  · exact ⟨kindOf16_c, makes16_c⟩
  · exact ⟨kindOf17_c, makes17_c⟩
  · exact ⟨kindOf18_c, makes18_c⟩
theorem doGoO_c (v : Val) (c : Cmd) (h4 : 4 ≤ c.kind) (h16 : c.kind ≤ 16) (h3 : 3 ≤ v.kind) (hv : kindOfC c.kind = v.kind) (hs : v.Small) (h : checkV v = 0) (hc : checkC c = 0) (hd : DetCall Tryz.prog G 154 1 v.own [.one (.ptr 0 0), .agg c.c] (.agg (doV v c).2.c) (doV v c).1.own) :
    PCall Tryz.prog G 138 [.agg v.c, .agg c.c] (DoA (DoEnd v (doV v c))) := by
  have hcv := checkV_c (G := G) v hs
  rw [h] at hcv
  have hcc := check_c (G := G) c.kind c.key c.field c.text c.n
  change PCall Tryz.prog G _ _ (iV (checkC c)) at hcc
  rw [hc] at hcc
  obtain ⟨l1, l2, l3⟩ := doV_len v c
  have hkq := doV_kind (v := v) (c := c) h4
  obtain ⟨s1, s2, s3⟩ := hs
  obtain ⟨u1, u2⟩ := kind_c (G := G) c.kind (by omega) (by omega)
  rw [hv] at u1
  obtain ⟨q, hq⟩ : ∃ q, doV v c = q := ⟨_, rfl⟩
  rw [hq] at hd l1 l2 l3 hkq ⊢
  obtain ⟨⟨k2, t2, n2, p2, i2, c2⟩, ⟨rc, rt, rn, rl⟩⟩ := q
  simp only at l1 l2 l3 hkq
  obtain ⟨k, t, n, p, i, s⟩ := v
  simp only at h3 s1 s2 s3 l1 l2 l3 hkq u1
  subst hkq
  obtain ⟨kk, key, f, tx, cn⟩ := c
  simp only at h4 h16 hcc u1 u2
  have o1 := own_g (G := G) k2 n t (pR p) (strRows i) (sR s) (ul_p p) (ul_i i) (ul_s s) (by simp; omega) (by simp; omega) (by simp; omega)
  simp only [Val.own, Val.c, Cmd.c, Rep.c] at hcv hd
  clear h hc hq hv
  have q5 : (k2 == 0) = false := by simp; omega
  have q6 : decide (18 < kk) = false := by simp; omega
  have q7 : decide (17 ≤ kk) = false := by simp; omega
  have q8 : decide (3 ≤ k2) = true := by simpa using h3
  by_cases hrc : rc = 0
  · subst hrc
    have hel := elements_c (G := G) k2 n2 t2 (pR p2) (strRows i2) (sR c2) (by simp; omega)
    simp only [pR, sR, List.length_map] at hel
    by_cases hz : (p2.length : Int) + i2.length + c2.length = 0
    · have o4 := own_c (G := G) 0 0 ⟨#[]⟩ [] [] [] (fun _ h => by simp at h) (fun _ h => by simp at h) (fun _ h => by simp at h) (by simp) (by simp) (by simp)
      have q3 : ((p2.length + i2.length + c2.length : Nat) : Int) = 0 := by omega
      rw [q3] at hel
      rw [DoEnd_none (v := ⟨k2, t, n, p, i, s⟩) (q := (⟨k2, t2, n2, p2, i2, c2⟩, ⟨0, rt, rn, rl⟩)) rfl h3 hz]
      simp only [DoA, Val.c, Cmd.c, Rep.c, zeroV]
      refine pcallc mixed Tryz.func138 ac_value_Do ?_
      repeat' (first | (with_reducible first | refine Cn (fun h => ?_) fun h => ?_ | refine And.intro ?_ ?_ | refine wR ?_ | exact wr _ _ | refine wa ?_ | apply awp_join | refine q hcv ?_ | refine qd hcv ?_ | refine qz hcv ?_ | refine q hcc ?_ | refine qd hcc ?_ | refine qz hcc ?_ | refine q u1 ?_ | refine qd u1 ?_ | refine qz u1 ?_ | refine q u2 ?_ | refine qd u2 ?_ | refine qz u2 ?_ | refine qg o1 ?_ | refine qgd o1 ?_ | refine qg hd ?_ | refine qgd hd ?_ | refine q o4 ?_ | refine qd o4 ?_ | refine qz o4 ?_ | refine q o4 ?_ | refine qd o4 ?_ | refine qz o4 ?_) | ((with_reducible refine CallZ.b ?_); simp -dsimp [go_sem]; (with_reducible refine PCall.bn (hel) (by with_unfolding_all rfl) (by with_unfolding_all rfl) (by with_unfolding_all rfl) (by with_unfolding_all rfl) ?_)) | (with_reducible refine CallZ.z ?_) | simp -dsimp [go_sem, q5, q6, q7, q8])
    · have o3 := own_c (G := G) k2 n2 t2 (pR p2) (strRows i2) (sR c2) (ul_p p2) (ul_i i2) (ul_s c2) (by simp; omega) (by simp; omega) (by simp; omega)
      obtain ⟨N, hN⟩ : ∃ N : Int, ((p2.length + i2.length + c2.length : Nat) : Int) = N := ⟨_, rfl⟩
      have q3 : (N == 0) = false := by simp; omega
      rw [hN] at hel
      rw [DoEnd_some (v := ⟨k2, t, n, p, i, s⟩) (q := (⟨k2, t2, n2, p2, i2, c2⟩, ⟨0, rt, rn, rl⟩)) rfl (fun h => hz h.2)]
      simp only [DoA, Val.c, Cmd.c, Rep.c]
      refine pcallc mixed Tryz.func138 ac_value_Do ?_
      repeat' (first | (with_reducible first | refine Cn (fun h => ?_) fun h => ?_ | refine And.intro ?_ ?_ | refine wR ?_ | exact wr _ _ | refine wa ?_ | apply awp_join | refine q hcv ?_ | refine qd hcv ?_ | refine qz hcv ?_ | refine q hcc ?_ | refine qd hcc ?_ | refine qz hcc ?_ | refine q u1 ?_ | refine qd u1 ?_ | refine qz u1 ?_ | refine q u2 ?_ | refine qd u2 ?_ | refine qz u2 ?_ | refine qg o1 ?_ | refine qgd o1 ?_ | refine qg hd ?_ | refine qgd hd ?_ | refine q o3 ?_ | refine qd o3 ?_ | refine qz o3 ?_) | ((with_reducible refine CallZ.b ?_); simp -dsimp [go_sem]; (with_reducible refine PCall.bn (hel) (by with_unfolding_all rfl) (by with_unfolding_all rfl) (by with_unfolding_all rfl) (by with_unfolding_all rfl) ?_)) | (with_reducible refine CallZ.z ?_) | simp -dsimp [go_sem, q3, q5, q6, q7, q8])
  · have o2 := own_c (G := G) k2 n t (pR p) (strRows i) (sR s) (ul_p p) (ul_i i) (ul_s s) (by simp; omega) (by simp; omega) (by simp; omega)
    have q1 : (rc != 0) = true := by simpa using hrc
    rw [DoEnd_fail (v := ⟨k2, t, n, p, i, s⟩) (q := (⟨k2, t2, n2, p2, i2, c2⟩, ⟨rc, rt, rn, rl⟩)) hrc]
    simp only [DoA, Val.c, Cmd.c, Rep.c]
    refine pcallc mixed Tryz.func138 ac_value_Do ?_
    repeat' (first | (with_reducible first | refine Cn (fun h => ?_) fun h => ?_ | refine And.intro ?_ ?_ | refine wR ?_ | exact wr _ _ | refine wa ?_ | apply awp_join | refine q hcv ?_ | refine qd hcv ?_ | refine qz hcv ?_ | refine q hcc ?_ | refine qd hcc ?_ | refine qz hcc ?_ | refine q u1 ?_ | refine qd u1 ?_ | refine qz u1 ?_ | refine q u2 ?_ | refine qd u2 ?_ | refine qz u2 ?_ | refine qg o1 ?_ | refine qgd o1 ?_ | refine qg hd ?_ | refine qgd hd ?_ | refine q o2 ?_ | refine qd o2 ?_ | refine qz o2 ?_) | (with_reducible refine CallZ.z ?_) | simp -dsimp [go_sem, q1, q5, q6, q7, q8])
theorem doGoP_c (v : Val) (c : Cmd) (h1 : 1 ≤ c.kind) (h18 : c.kind ≤ 18) (hm : ¬ ((kindOfC c.kind ≠ 0 ∧ kindOfC c.kind ≠ v.kind) ∨ (17 ≤ c.kind ∧ v.kind < 3))) (hs : v.Small) (h : checkV v = 0) (hc : checkC c = 0) (hd : DetCall Tryz.prog G 154 1 v.plain [.one (.ptr 0 0), .agg c.c] (.agg (doV v c).2.c) (doV v c).1.plain) :
    PCall Tryz.prog G 138 [.agg v.c, .agg c.c] (DoA (DoEnd v (doV v c))) := by
  have hcv := checkV_c (G := G) v hs
  have hk0 := (kind_ok h).1
  rw [h] at hcv
  have hcc := check_c (G := G) c.kind c.key c.field c.text c.n
  change PCall Tryz.prog G _ _ (iV (checkC c)) at hcc
  rw [hc] at hcc
  obtain ⟨l1, l2, l3⟩ := doV_len v c
  obtain ⟨s1, s2, s3⟩ := hs
  obtain ⟨u1, u2⟩ := kind_c (G := G) c.kind (by omega) (by omega)
  generalize kindOfC c.kind = K at hm u1
  obtain ⟨q, hq⟩ : ∃ q, doV v c = q := ⟨_, rfl⟩
  rw [hq] at hd l1 l2 l3 ⊢
  obtain ⟨⟨k2, t2, n2, p2, i2, c2⟩, ⟨rc, rt, rn, rl⟩⟩ := q
  simp only at l1 l2 l3
  obtain ⟨k, t, n, p, i, s⟩ := v
  simp only at hk0 hm s1 s2 s3 l1 l2 l3
  obtain ⟨kk, key, f, tx, cn⟩ := c
  simp only at h1 h18 hcc hm u1 u2
  have o1 := own_c (G := G) k n t (pR p) (strRows i) (sR s) (ul_p p) (ul_i i) (ul_s s) (by simp; omega) (by simp; omega) (by simp; omega)
  simp only [Val.plain, Val.c, Cmd.c, Rep.c] at hcv hd
  clear h hc hq
  have q5 : (k == 0) = false := by simp; omega
  have q6 : decide (18 < kk) = false := by simp; omega
  have hm1 : K = 0 ∨ K ≠ 0 ∧ K = k := by omega
  have hm2 : kk < 17 ∨ 17 ≤ kk ∧ 3 ≤ k := by omega
  by_cases hrc : rc = 0
  · subst hrc
    have hel := elements_c (G := G) k2 n2 t2 (pR p2) (strRows i2) (sR c2) (by simp; omega)
    simp only [pR, sR, List.length_map] at hel
    by_cases hk3 : 3 ≤ k2
    · have q4 : decide (3 ≤ k2) = true := by simpa using hk3
      by_cases hz : (p2.length : Int) + i2.length + c2.length = 0
      · have o4 := own_c (G := G) 0 0 ⟨#[]⟩ [] [] [] (fun _ h => by simp at h) (fun _ h => by simp at h) (fun _ h => by simp at h) (by simp) (by simp) (by simp)
        have q3 : ((p2.length + i2.length + c2.length : Nat) : Int) = 0 := by omega
        rw [q3] at hel
        rw [DoEnd_none (v := ⟨k, t, n, p, i, s⟩) (q := (⟨k2, t2, n2, p2, i2, c2⟩, ⟨0, rt, rn, rl⟩)) rfl hk3 hz]
        simp only [DoA, Val.c, Cmd.c, Rep.c, zeroV]
        refine pcallc mixed Tryz.func138 ac_value_Do ?_
        repeat' (first | (with_reducible first | refine Cn (fun h => ?_) fun h => ?_ | refine And.intro ?_ ?_ | refine wR ?_ | exact wr _ _ | refine wa ?_ | apply awp_join | refine q hcv ?_ | refine qd hcv ?_ | refine qz hcv ?_ | refine q hcc ?_ | refine qd hcc ?_ | refine qz hcc ?_ | refine q u1 ?_ | refine qd u1 ?_ | refine qz u1 ?_ | refine q u2 ?_ | refine qd u2 ?_ | refine qz u2 ?_ | refine q o1 ?_ | refine qd o1 ?_ | refine qz o1 ?_ | refine qg hd ?_ | refine qgd hd ?_ | refine q hel ?_ | refine qd hel ?_ | refine qz hel ?_ | refine q o4 ?_ | refine qd o4 ?_ | refine qz o4 ?_ | refine q o4 ?_ | refine qd o4 ?_ | refine qz o4 ?_) | (with_reducible refine CallZ.z ?_) | simp -dsimp [go_sem, q4, q5, q6])
        all_goals (clear hd hcv hcc o1 o4 hel u1 u2; exfalso; simp at *; omega)
      · have o3 := own_c (G := G) k2 n2 t2 (pR p2) (strRows i2) (sR c2) (ul_p p2) (ul_i i2) (ul_s c2) (by simp; omega) (by simp; omega) (by simp; omega)
        obtain ⟨N, hN⟩ : ∃ N : Int, ((p2.length + i2.length + c2.length : Nat) : Int) = N := ⟨_, rfl⟩
        have q3 : (N == 0) = false := by simp; omega
        rw [hN] at hel
        rw [DoEnd_some (v := ⟨k, t, n, p, i, s⟩) (q := (⟨k2, t2, n2, p2, i2, c2⟩, ⟨0, rt, rn, rl⟩)) rfl (fun h => hz h.2)]
        simp only [DoA, Val.c, Cmd.c, Rep.c]
        refine pcallc mixed Tryz.func138 ac_value_Do ?_
        repeat' (first | (with_reducible first | refine Cn (fun h => ?_) fun h => ?_ | refine And.intro ?_ ?_ | refine wR ?_ | exact wr _ _ | refine wa ?_ | apply awp_join | refine q hcv ?_ | refine qd hcv ?_ | refine qz hcv ?_ | refine q hcc ?_ | refine qd hcc ?_ | refine qz hcc ?_ | refine q u1 ?_ | refine qd u1 ?_ | refine qz u1 ?_ | refine q u2 ?_ | refine qd u2 ?_ | refine qz u2 ?_ | refine q o1 ?_ | refine qd o1 ?_ | refine qz o1 ?_ | refine qg hd ?_ | refine qgd hd ?_ | refine q hel ?_ | refine qd hel ?_ | refine qz hel ?_ | refine q o3 ?_ | refine qd o3 ?_ | refine qz o3 ?_) | (with_reducible refine CallZ.z ?_) | simp -dsimp [go_sem, q3, q4, q5, q6])
        all_goals (clear hd hcv hcc o1 o3 hel u1 u2; exfalso; simp at *; omega)
    · have q4 : decide (3 ≤ k2) = false := by simpa using hk3
      have o3 := own_c (G := G) k2 n2 t2 (pR p2) (strRows i2) (sR c2) (ul_p p2) (ul_i i2) (ul_s c2) (by simp; omega) (by simp; omega) (by simp; omega)
      rw [DoEnd_some (v := ⟨k, t, n, p, i, s⟩) (q := (⟨k2, t2, n2, p2, i2, c2⟩, ⟨0, rt, rn, rl⟩)) rfl (fun h => hk3 h.1)]
      simp only [DoA, Val.c, Cmd.c, Rep.c]
      refine pcallc mixed Tryz.func138 ac_value_Do ?_
      repeat' (first | (with_reducible first | refine Cn (fun h => ?_) fun h => ?_ | refine And.intro ?_ ?_ | refine wR ?_ | exact wr _ _ | refine wa ?_ | apply awp_join | refine q hcv ?_ | refine qd hcv ?_ | refine qz hcv ?_ | refine q hcc ?_ | refine qd hcc ?_ | refine qz hcc ?_ | refine q u1 ?_ | refine qd u1 ?_ | refine qz u1 ?_ | refine q u2 ?_ | refine qd u2 ?_ | refine qz u2 ?_ | refine q o1 ?_ | refine qd o1 ?_ | refine qz o1 ?_ | refine qg hd ?_ | refine qgd hd ?_ | refine q o3 ?_ | refine qd o3 ?_ | refine qz o3 ?_) | (with_reducible refine CallZ.z ?_) | simp -dsimp [go_sem, q4, q5, q6])
      all_goals (clear hd hcv hcc o1 o3 hel u1 u2; exfalso; simp at *; omega)
  · have q1 : (rc != 0) = true := by simpa using hrc
    rw [DoEnd_fail (v := ⟨k, t, n, p, i, s⟩) (q := (⟨k2, t2, n2, p2, i2, c2⟩, ⟨rc, rt, rn, rl⟩)) hrc]
    simp only [DoA, Val.c, Cmd.c, Rep.c]
    refine pcallc mixed Tryz.func138 ac_value_Do ?_
    repeat' (first | (with_reducible first | refine Cn (fun h => ?_) fun h => ?_ | refine And.intro ?_ ?_ | refine wR ?_ | exact wr _ _ | refine wa ?_ | apply awp_join | refine q hcv ?_ | refine qd hcv ?_ | refine qz hcv ?_ | refine q hcc ?_ | refine qd hcc ?_ | refine qz hcc ?_ | refine q u1 ?_ | refine qd u1 ?_ | refine qz u1 ?_ | refine q u2 ?_ | refine qd u2 ?_ | refine qz u2 ?_ | refine q o1 ?_ | refine qd o1 ?_ | refine qz o1 ?_ | refine qg hd ?_ | refine qgd hd ?_ | refine q o1 ?_ | refine qd o1 ?_ | refine qz o1 ?_) | (with_reducible refine CallZ.z ?_) | simp -dsimp [go_sem, q1, q5, q6])
    all_goals (clear hd hcv hcc o1 u1 u2; exfalso; simp at *; omega)
end Go.Proofs.YtpdcfljbabpakaaGreatDoor
set_option linter.unusedVariables false
set_option linter.unusedSimpArgs false
set_option maxRecDepth 100000
set_option maxHeartbeats 8000000
namespace Go.Proofs.YtpdcfljbabpakaaGreatDoor
open Go Go.RowKit Go.Proofs.AE
variable {G : Nat → AV}
theorem zeroV_small : zeroV.Small := ⟨Nat.zero_le _, Nat.zero_le _, Nat.zero_le _⟩
theorem zero_els : PCall Tryz.prog G 114 [.agg [iC 0, sC ⟨#[]⟩, iC 0, .v (.sl []), .v (.sl []), .v (.sl [])]] (iV 0) := elements_c 0 0 ⟨#[]⟩ [] [] [] (by simp)
theorem zero_own : PCall Tryz.prog G 150 [.agg [iC 0, sC ⟨#[]⟩, iC 0, .v (.sl []), .v (.sl []), .v (.sl [])]] (.agg [iC 0, sC ⟨#[]⟩, iC 0, .v (.sl []), .v (.sl []), .v (.sl [])]) :=
  own_c 0 0 ⟨#[]⟩ [] [] [] (fun _ h => by simp at h) (fun _ h => by simp at h) (fun _ h => by simp at h) (by simp) (by simp) (by simp)
theorem zero_check : PCall Tryz.prog G 98 [.agg [iC 0, sC ⟨#[]⟩, iC 0, .v (.sl []), .v (.sl []), .v (.sl [])]] (iV 3) := by
  have := checkV_c (G := G) zeroV zeroV_small
  rwa [check_zero] at this
theorem doZero_c (c : Cmd) (h1 : 1 ≤ c.kind) (h18 : c.kind ≤ 18) (hm : makesC c.kind = false) (hc : checkC c = 0) : PCall Tryz.prog G 138 [.agg zeroV.c, .agg c.c] (DoA (zeroV, failR 5, 0)) := by
  have hcc := check_c (G := G) c.kind c.key c.field c.text c.n
  change PCall Tryz.prog G _ _ (iV (checkC c)) at hcc
  rw [hc] at hcc
  have z1 := zero_els (G := G)
  have z2 := zero_own (G := G)
  have z3 := zero_check (G := G)
  obtain ⟨u1, u2⟩ := kind_c (G := G) c.kind h1 h18
  rw [hm] at u2
  have f := failed_c (G := G) 5
  obtain ⟨kk, key, f', tx, cn⟩ := c
  simp only at h18 hcc u1 u2
  clear hc
  have q6 : decide (18 < kk) = false := by simp; omega
  simp only [DoA, Val.c, Cmd.c, Rep.c, zeroV, failR] at f ⊢
  refine pcallc mixed Tryz.func138 ac_value_Do ?_
  repeat' (first | (with_reducible first | refine Cn (fun h => ?_) fun h => ?_ | refine And.intro ?_ ?_ | refine wR ?_ | exact wr _ _ | refine wa ?_ | apply awp_join | refine q z1 ?_ | refine qd z1 ?_ | refine qz z1 ?_ | refine q z2 ?_ | refine qd z2 ?_ | refine qz z2 ?_ | refine q z3 ?_ | refine qd z3 ?_ | refine qz z3 ?_ | refine q hcc ?_ | refine qd hcc ?_ | refine qz hcc ?_ | refine q u1 ?_ | refine qd u1 ?_ | refine qz u1 ?_ | refine q u2 ?_ | refine qd u2 ?_ | refine qz u2 ?_ | refine q f ?_ | refine qd f ?_ | refine qz f ?_ | refine q z2 ?_ | refine qd z2 ?_ | refine qz z2 ?_) | (with_reducible refine CallZ.z ?_) | simp -dsimp [go_sem, q6])
theorem doMakeO_c (c : Cmd) (h4 : 4 ≤ c.kind) (h16 : c.kind ≤ 16) (hm : makesC c.kind = true) (h3 : 3 ≤ kindOfC c.kind) (hc : checkC c = 0) (hd : DetCall Tryz.prog G 154 1 (Val.mk (kindOfC c.kind) ⟨#[]⟩ 0 [] [] []).own [.one (.ptr 0 0), .agg c.c] (.agg (doV ⟨kindOfC c.kind, ⟨#[]⟩, 0, [], [], []⟩ c).2.c) (doV ⟨kindOfC c.kind, ⟨#[]⟩, 0, [], [], []⟩ c).1.own) :
    PCall Tryz.prog G 138 [.agg zeroV.c, .agg c.c] (DoA (DoEnd zeroV (doV ⟨kindOfC c.kind, ⟨#[]⟩, 0, [], [], []⟩ c))) := by
  have hcc := check_c (G := G) c.kind c.key c.field c.text c.n
  change PCall Tryz.prog G _ _ (iV (checkC c)) at hcc
  rw [hc] at hcc
  have z1 := zero_els (G := G)
  have z2 := zero_own (G := G)
  have z3 := zero_check (G := G)
  obtain ⟨u1, u2⟩ := kind_c (G := G) c.kind (by omega) (by omega)
  rw [hm] at u2
  generalize kindOfC c.kind = K at *
  obtain ⟨l1, l2, l3⟩ := doV_len ⟨K, ⟨#[]⟩, 0, [], [], []⟩ c
  have hkq := doV_kind (v := ⟨K, ⟨#[]⟩, 0, [], [], []⟩) (c := c) (by omega)
  obtain ⟨q, hq⟩ : ∃ q, doV ⟨K, ⟨#[]⟩, 0, [], [], []⟩ c = q := ⟨_, rfl⟩
  rw [hq] at hd l1 l2 l3 hkq ⊢
  obtain ⟨⟨k2, t2, n2, p2, i2, c2⟩, ⟨rc, rt, rn, rl⟩⟩ := q
  simp only [List.length_nil] at l1 l2 l3 hkq
  subst hkq
  obtain ⟨kk, key, f, tx, cn⟩ := c
  simp only at h4 h16 hcc u1 u2
  have o1 := own_g (G := G) 0 0 ⟨#[]⟩ [] [] [] (fun _ h => by simp at h) (fun _ h => by simp at h) (fun _ h => by simp at h) (by simp) (by simp) (by simp)
  simp only [Val.own, Val.c, Cmd.c, Rep.c, List.map_nil] at hd
  clear hc hq
  have q6 : decide (18 < kk) = false := by simp; omega
  have q8 : decide (3 ≤ k2) = true := by simpa using h3
  by_cases hrc : rc = 0
  · subst hrc
    have hel := elements_c (G := G) k2 n2 t2 (pR p2) (strRows i2) (sR c2) (by simp; omega)
    simp only [pR, sR, List.length_map] at hel
    by_cases hz : (p2.length : Int) + i2.length + c2.length = 0
    · have q3 : ((p2.length + i2.length + c2.length : Nat) : Int) = 0 := by omega
      rw [q3] at hel
      rw [DoEnd_none (v := zeroV) (q := (⟨k2, t2, n2, p2, i2, c2⟩, ⟨0, rt, rn, rl⟩)) rfl h3 hz]
      simp only [DoA, Val.c, Cmd.c, Rep.c, zeroV]
      refine pcallc mixed Tryz.func138 ac_value_Do ?_
      repeat' (first | (with_reducible first | refine Cn (fun h => ?_) fun h => ?_ | refine And.intro ?_ ?_ | refine wR ?_ | exact wr _ _ | refine wa ?_ | apply awp_join | refine q z1 ?_ | refine qd z1 ?_ | refine qz z1 ?_ | refine q z3 ?_ | refine qd z3 ?_ | refine qz z3 ?_ | refine q hcc ?_ | refine qd hcc ?_ | refine qz hcc ?_ | refine q u1 ?_ | refine qd u1 ?_ | refine qz u1 ?_ | refine q u2 ?_ | refine qd u2 ?_ | refine qz u2 ?_ | refine qg o1 ?_ | refine qgd o1 ?_ | refine qg hd ?_ | refine qgd hd ?_ | refine q z2 ?_ | refine qd z2 ?_ | refine qz z2 ?_) | ((with_reducible refine CallZ.b ?_); simp -dsimp [go_sem]; (with_reducible refine PCall.bn (hel) (by with_unfolding_all rfl) (by with_unfolding_all rfl) (by with_unfolding_all rfl) (by with_unfolding_all rfl) ?_)) | (with_reducible refine CallZ.z ?_) | simp -dsimp [go_sem, q6, q8])
    · have o3 := own_c (G := G) k2 n2 t2 (pR p2) (strRows i2) (sR c2) (ul_p p2) (ul_i i2) (ul_s c2) (by simp; omega) (by simp; omega) (by simp; omega)
      obtain ⟨N, hN⟩ : ∃ N : Int, ((p2.length + i2.length + c2.length : Nat) : Int) = N := ⟨_, rfl⟩
      have q3 : (N == 0) = false := by simp; omega
      rw [hN] at hel
      rw [DoEnd_some (v := zeroV) (q := (⟨k2, t2, n2, p2, i2, c2⟩, ⟨0, rt, rn, rl⟩)) rfl (fun h => hz h.2)]
      simp only [DoA, Val.c, Cmd.c, Rep.c, zeroV]
      refine pcallc mixed Tryz.func138 ac_value_Do ?_
      repeat' (first | (with_reducible first | refine Cn (fun h => ?_) fun h => ?_ | refine And.intro ?_ ?_ | refine wR ?_ | exact wr _ _ | refine wa ?_ | apply awp_join | refine q z1 ?_ | refine qd z1 ?_ | refine qz z1 ?_ | refine q z3 ?_ | refine qd z3 ?_ | refine qz z3 ?_ | refine q hcc ?_ | refine qd hcc ?_ | refine qz hcc ?_ | refine q u1 ?_ | refine qd u1 ?_ | refine qz u1 ?_ | refine q u2 ?_ | refine qd u2 ?_ | refine qz u2 ?_ | refine qg o1 ?_ | refine qgd o1 ?_ | refine qg hd ?_ | refine qgd hd ?_ | refine q o3 ?_ | refine qd o3 ?_ | refine qz o3 ?_) | ((with_reducible refine CallZ.b ?_); simp -dsimp [go_sem]; (with_reducible refine PCall.bn (hel) (by with_unfolding_all rfl) (by with_unfolding_all rfl) (by with_unfolding_all rfl) (by with_unfolding_all rfl) ?_)) | (with_reducible refine CallZ.z ?_) | simp -dsimp [go_sem, q3, q6, q8])
  · have q1 : (rc != 0) = true := by simpa using hrc
    rw [DoEnd_fail (v := zeroV) (q := (⟨k2, t2, n2, p2, i2, c2⟩, ⟨rc, rt, rn, rl⟩)) hrc]
    simp only [DoA, Val.c, Cmd.c, Rep.c, zeroV]
    refine pcallc mixed Tryz.func138 ac_value_Do ?_
    repeat' (first | (with_reducible first | refine Cn (fun h => ?_) fun h => ?_ | refine And.intro ?_ ?_ | refine wR ?_ | exact wr _ _ | refine wa ?_ | apply awp_join | refine q z1 ?_ | refine qd z1 ?_ | refine qz z1 ?_ | refine q z3 ?_ | refine qd z3 ?_ | refine qz z3 ?_ | refine q hcc ?_ | refine qd hcc ?_ | refine qz hcc ?_ | refine q u1 ?_ | refine qd u1 ?_ | refine qz u1 ?_ | refine q u2 ?_ | refine qd u2 ?_ | refine qz u2 ?_ | refine qg o1 ?_ | refine qgd o1 ?_ | refine qg hd ?_ | refine qgd hd ?_ | refine q z2 ?_ | refine qd z2 ?_ | refine qz z2 ?_) | (with_reducible refine CallZ.z ?_) | simp -dsimp [go_sem, q1, q6, q8])
theorem doMakeP_c (c : Cmd) (hk : c.kind = 1 ∨ c.kind = 3) (hc : checkC c = 0) (hd : DetCall Tryz.prog G 154 1 (Val.mk (kindOfC c.kind) ⟨#[]⟩ 0 [] [] []).plain [.one (.ptr 0 0), .agg c.c] (.agg (doV ⟨kindOfC c.kind, ⟨#[]⟩, 0, [], [], []⟩ c).2.c) (doV ⟨kindOfC c.kind, ⟨#[]⟩, 0, [], [], []⟩ c).1.plain) :
    PCall Tryz.prog G 138 [.agg zeroV.c, .agg c.c] (DoA (DoEnd zeroV (doV ⟨kindOfC c.kind, ⟨#[]⟩, 0, [], [], []⟩ c))) := by
  have hcc := check_c (G := G) c.kind c.key c.field c.text c.n
  change PCall Tryz.prog G _ _ (iV (checkC c)) at hcc
  rw [hc] at hcc
  obtain ⟨u1, u2⟩ := kind_c (G := G) c.kind (by omega) (by omega)
  have hkq : (doV ⟨kindOfC c.kind, ⟨#[]⟩, 0, [], [], []⟩ c).1.kind < 3 := by
    unfold doV
    rcases hk with hk | hk <;> simp [hk, kindOfC] <;> try (split <;> simp)
  have hm : makesC c.kind = true := by rcases hk with hk | hk <;> rw [hk] <;> rfl
  rw [hm] at u2
  generalize kindOfC c.kind = K at *
  obtain ⟨l1, l2, l3⟩ := doV_len ⟨K, ⟨#[]⟩, 0, [], [], []⟩ c
  have z1 := zero_els (G := G)
  have z2 := zero_own (G := G)
  have z3 := zero_check (G := G)
  obtain ⟨q, hq⟩ : ∃ q, doV ⟨K, ⟨#[]⟩, 0, [], [], []⟩ c = q := ⟨_, rfl⟩
  rw [hq] at hd l1 l2 l3 hkq ⊢
  obtain ⟨⟨k2, t2, n2, p2, i2, c2⟩, ⟨rc, rt, rn, rl⟩⟩ := q
  simp only [List.length_nil] at l1 l2 l3 hkq
  obtain ⟨kk, key, f, tx, cn⟩ := c
  simp only at hk hcc u1 u2
  simp only [Val.plain, Val.c, Cmd.c, Rep.c, List.map_nil] at hd
  clear hc hq
  have q6 : decide (18 < kk) = false := by simp; omega
  by_cases hrc : rc = 0
  · subst hrc
    have q4 : decide (3 ≤ k2) = false := by simp; omega
    have o3 := own_c (G := G) k2 n2 t2 (pR p2) (strRows i2) (sR c2) (ul_p p2) (ul_i i2) (ul_s c2) (by simp; omega) (by simp; omega) (by simp; omega)
    rw [DoEnd_some (v := zeroV) (q := (⟨k2, t2, n2, p2, i2, c2⟩, ⟨0, rt, rn, rl⟩)) rfl (fun h => by have := h.1; simp only at this; omega)]
    simp only [DoA, Val.c, Cmd.c, Rep.c, zeroV]
    refine pcallc mixed Tryz.func138 ac_value_Do ?_
    repeat' (first | (with_reducible first | refine Cn (fun h => ?_) fun h => ?_ | refine And.intro ?_ ?_ | refine wR ?_ | exact wr _ _ | refine wa ?_ | apply awp_join | refine q z1 ?_ | refine qd z1 ?_ | refine qz z1 ?_ | refine q z2 ?_ | refine qd z2 ?_ | refine qz z2 ?_ | refine q z3 ?_ | refine qd z3 ?_ | refine qz z3 ?_ | refine q hcc ?_ | refine qd hcc ?_ | refine qz hcc ?_ | refine q u1 ?_ | refine qd u1 ?_ | refine qz u1 ?_ | refine q u2 ?_ | refine qd u2 ?_ | refine qz u2 ?_ | refine qg hd ?_ | refine qgd hd ?_ | refine q o3 ?_ | refine qd o3 ?_ | refine qz o3 ?_) | (with_reducible refine CallZ.z ?_) | simp -dsimp [go_sem, q4, q6])
  · have q1 : (rc != 0) = true := by simpa using hrc
    rw [DoEnd_fail (v := zeroV) (q := (⟨k2, t2, n2, p2, i2, c2⟩, ⟨rc, rt, rn, rl⟩)) hrc]
    simp only [DoA, Val.c, Cmd.c, Rep.c, zeroV]
    refine pcallc mixed Tryz.func138 ac_value_Do ?_
    repeat' (first | (with_reducible first | refine Cn (fun h => ?_) fun h => ?_ | refine And.intro ?_ ?_ | refine wR ?_ | exact wr _ _ | refine wa ?_ | apply awp_join | refine q z1 ?_ | refine qd z1 ?_ | refine qz z1 ?_ | refine q z2 ?_ | refine qd z2 ?_ | refine qz z2 ?_ | refine q z3 ?_ | refine qd z3 ?_ | refine qz z3 ?_ | refine q hcc ?_ | refine qd hcc ?_ | refine qz hcc ?_ | refine q u1 ?_ | refine qd u1 ?_ | refine qz u1 ?_ | refine q u2 ?_ | refine qd u2 ?_ | refine qz u2 ?_ | refine qg hd ?_ | refine qgd hd ?_ | refine q z2 ?_ | refine qd z2 ?_ | refine qz z2 ?_) | (with_reducible refine CallZ.z ?_) | simp -dsimp [go_sem, q1, q6])
theorem doType_c (v : Val) (c : Cmd) (h1 : 1 ≤ c.kind) (h18 : c.kind ≤ 18) (hs : v.Small) (h : checkV v = 0) (hc : checkC c = 0) (hm : (kindOfC c.kind ≠ 0 ∧ kindOfC c.kind ≠ v.kind) ∨ (17 ≤ c.kind ∧ v.kind < 3)) : PCall Tryz.prog G 138 [.agg v.c, .agg c.c] (DoA (v, failR 4, 0)) := by
  have hcv := checkV_c (G := G) v hs
  have hk0 := (kind_ok h).1
  rw [h] at hcv
  have hcc := check_c (G := G) c.kind c.key c.field c.text c.n
  change PCall Tryz.prog G _ _ (iV (checkC c)) at hcc
  rw [hc] at hcc
  obtain ⟨u1, u2⟩ := kind_c (G := G) c.kind h1 h18
  generalize kindOfC c.kind = K at *
  have f := failed_c (G := G) 4
  obtain ⟨k, t, n, p, i, s⟩ := v
  obtain ⟨s1, s2, s3⟩ := hs
  simp only at hk0 hm s1 s2 s3
  have o1 := own_c (G := G) k n t (pR p) (strRows i) (sR s) (ul_p p) (ul_i i) (ul_s s) (by simp; omega) (by simp; omega) (by simp; omega)
  obtain ⟨kk, key, f', tx, cn⟩ := c
  simp only at h1 h18 hcc hm u1 u2
  clear hc h
  have q5 : (k == 0) = false := by simp; omega
  have q6 : decide (18 < kk) = false := by simp; omega
  simp only [DoA, Val.c, Cmd.c, Rep.c, zeroV, failR] at f hcv ⊢
  refine pcallc mixed Tryz.func138 ac_value_Do ?_
  repeat' (first | (with_reducible first | refine Cn (fun h => ?_) fun h => ?_ | refine And.intro ?_ ?_ | refine wR ?_ | exact wr _ _ | refine wa ?_ | apply awp_join | refine q hcv ?_ | refine qd hcv ?_ | refine qz hcv ?_ | refine q hcc ?_ | refine qd hcc ?_ | refine qz hcc ?_ | refine q u1 ?_ | refine qd u1 ?_ | refine qz u1 ?_ | refine q u2 ?_ | refine qd u2 ?_ | refine qz u2 ?_ | refine q o1 ?_ | refine qd o1 ?_ | refine qz o1 ?_ | refine q f ?_ | refine qd f ?_ | refine qz f ?_) | (with_reducible refine CallZ.z ?_) | simp -dsimp [go_sem, q5, q6])
  all_goals (clear hcv hcc o1 f u1 u2; exfalso; simp at *; omega)
end Go.Proofs.YtpdcfljbabpakaaGreatDoor
set_option linter.unusedVariables false
set_option linter.unusedSimpArgs false
set_option maxRecDepth 100000
set_option maxHeartbeats 8000000
namespace Go.Proofs.YtpdcfljbabpakaaGreatDoor
open Go Go.RowKit Go.Proofs.AE
theorem rising_iff {α : Type} {cmp : α → α → Int} (tr : ∀ a b c, cmp a b < 0 → cmp b c < 0 → cmp a c < 0) : ∀ {l : List α}, rising cmp l = true ↔ l.Pairwise (fun a b => cmp a b < 0)
  | [] => by simp [rising]
  | x :: l => by
    rw [List.pairwise_cons, ← rising_iff tr]
    constructor
    · intro h; exact ⟨rising_head tr h, rising_tail h⟩
    · rintro ⟨h1, h2⟩
      cases l with
      | nil => rfl
      | cons y r => simp only [rising, Bool.and_eq_true, decide_eq_true_eq]; exact ⟨h1 y (List.mem_cons_self ..), h2⟩
theorem rankOf_neg {l : List Sc} {m : ByteArray} : rankOf l m < 0 ↔ ∀ s ∈ l, s.1 ≠ m := by
  have := firstI_ge (fun s : Sc => decide (s.1 = m)) l 0
  change decide (0 ≤ rankOf l m) = _ at this
  constructor
  · intro h s hs e
    have h0 : decide (0 ≤ rankOf l m) = false := by simp; omega
    rw [h0] at this
    have h1 := List.any_eq_false.1 this.symm s hs
    simp [e] at h1
  · intro h
    have : l.any (fun s => decide (s.1 = m)) = false := by
      rw [List.any_eq_false]
      intro s hs; simpa using h s hs
    have h2 := firstI_ge (fun s : Sc => decide (s.1 = m)) l 0
    rw [this] at h2
    change decide (0 ≤ rankOf l m) = false at h2
    simp at h2; omega
theorem onceB_iff {l : List Sc} : onceB l l.length = true ↔ l.Pairwise (fun a b => a.1 ≠ b.1) := by
  rw [List.pairwise_iff_getElem]
  unfold onceB
  rw [List.all_eq_true]
  constructor
  · intro h i j hi hj hij
    have := h j (List.mem_range.2 hj)
    rw [List.getElem?_eq_getElem hj] at this
    simp only [decide_eq_true_eq] at this
    exact rankOf_neg.1 this l[i] (by rw [List.mem_take_iff_getElem]; exact ⟨i, by omega, rfl⟩)
  · intro h j hj
    have hj := List.mem_range.1 hj
    rw [List.getElem?_eq_getElem hj]
    simp only [decide_eq_true_eq]
    rw [rankOf_neg]
    intro s hs
    rw [List.mem_take_iff_getElem] at hs
    obtain ⟨i, hi, rfl⟩ := hs
    exact h i j (by omega) hj (by omega)
structure OkV (v : Val) : Prop where
  kind : 1 ≤ v.kind ∧ v.kind ≤ 6
  text : v.kind = 1 ∨ v.text = ⟨#[]⟩
  count : v.kind = 2 ∨ v.count = 0
  pairs : v.kind = 3 ∨ v.pairs = []
  items : v.kind = 4 ∨ v.kind = 5 ∨ v.items = []
  scores : v.kind = 6 ∨ v.scores = []
  els : 3 ≤ v.kind → 1 ≤ v.els ∧ v.els ≤ 20
  okT : okText v.text = true
  okI : ∀ s ∈ v.items, okText s = true
  okP : ∀ p ∈ v.pairs, okField p.1 = true ∧ okText p.2 = true
  okS : ∀ s ∈ v.scores, okText s.1 = true ∧ okCount s.2 = true
  okC : okCount v.count = true
  riseP : v.pairs.Pairwise (fun a b => bF a b < 0)
  riseS : v.scores.Pairwise (fun a b => bS a b < 0)
  riseI : v.kind = 5 → v.items.Pairwise (fun a b => cmpB a b < 0)
  once : v.scores.Pairwise (fun a b => a.1 ≠ b.1)
theorem len_zero {α : Type} {l : List α} (h : (l.length : Int) = 0) : l = [] := List.eq_nil_of_length_eq_zero (by omega)
theorem checkV_iff {v : Val} : checkV v = 0 ↔ OkV v := by
  constructor
  · intro h
    obtain ⟨k1, k2⟩ := kind_ok h
    unfold checkV at h
    rw [if_neg (by omega), if_neg (by omega)] at h
    by_cases hb : v.bad = true
    · rw [if_pos hb] at h; cases h
    rw [if_neg hb] at h
    by_cases he : 3 ≤ v.kind ∧ (v.els < 1 ∨ 20 < v.els)
    · rw [if_pos he] at h; cases h
    rw [if_neg he] at h
    by_cases h1 : (!okText v.text || v.items.any longS) = true
    · rw [if_pos h1] at h; cases h
    rw [if_neg h1] at h
    by_cases h2 : v.pairs.any badP = true
    · rw [if_pos h2] at h; cases h
    rw [if_neg h2] at h
    by_cases h3 : v.scores.any longM = true
    · rw [if_pos h3] at h; cases h
    rw [if_neg h3] at h
    by_cases h4 : (!okCount v.count || v.scores.any farN) = true
    · rw [if_pos h4] at h; cases h
    rw [if_neg h4] at h
    have h5 : v.order = true := by
      cases ho : v.order with
      | true => rfl
      | false => rw [ho] at h; simp at h
    simp only [Bool.or_eq_true, Bool.not_eq_true', not_or, Bool.not_eq_false, Bool.not_eq_true] at h1 h4 h2 h3
    unfold Val.order Val.ord at h5
    simp only [Bool.and_eq_true, Bool.or_eq_true, decide_eq_true_eq] at h5
    obtain ⟨⟨⟨r1, r2⟩, r3⟩, r4⟩ := h5
    unfold Val.bad at hb
    simp only [Bool.or_eq_true, Bool.and_eq_true, bne_iff_ne, decide_eq_true_eq, not_or, not_and, Classical.not_not] at hb
    obtain ⟨⟨b1, b2⟩, b3⟩ := hb
    refine ⟨⟨k1, k2⟩, ?_, ?_, ?_, ?_, ?_, ?_, h1.1, ?_, ?_, ?_, h4.1, (rising_iff bF_tr).1 r1, (rising_iff bS_tr).1 r2, ?_, onceB_iff.1 r4⟩
    · by_cases e : v.kind = 1
      · exact .inl e
      · exact .inr (b1 e)
    · by_cases e : v.kind = 2
      · exact .inl e
      · exact .inr (b2 e)
    · by_cases e : v.kind = 3
      · exact .inl e
      · rw [if_neg e] at b3
        refine .inr (len_zero ?_)
        split at b3 <;> split at b3 <;> omega
    · by_cases e : v.kind = 4 ∨ v.kind = 5
      · rcases e with e | e
        · exact .inl e
        · exact .inr (.inl e)
      · rw [if_neg e] at b3
        refine .inr (.inr (len_zero ?_))
        split at b3 <;> split at b3 <;> omega
    · by_cases e : v.kind = 6
      · exact .inl e
      · rw [if_neg e] at b3
        refine .inr (len_zero ?_)
        split at b3 <;> split at b3 <;> omega
    · intro hk; omega
    · intro s hs
      have := List.any_eq_false.1 h1.2 s hs
      simpa [longS] using this
    · intro p hp
      have := List.any_eq_false.1 h2 p hp
      simpa [badP] using this
    · intro s hs
      have a := List.any_eq_false.1 h3 s hs
      have b := List.any_eq_false.1 h4.2 s hs
      exact ⟨by simpa [longM] using a, by simpa [farN] using b⟩
    · intro hk
      rcases r3 with r3 | r3
      · exact absurd hk r3
      · exact (rising_iff cmpB_tr).1 r3
  · intro h
    unfold checkV
    have hk := h.kind
    rw [if_neg (by omega), if_neg (by omega)]
    have hb : ¬ v.bad = true := by
      unfold Val.bad
      simp only [Bool.or_eq_true, Bool.and_eq_true, bne_iff_ne, decide_eq_true_eq, not_or, not_and, Classical.not_not]
      refine ⟨⟨fun e => h.text.resolve_left e, fun e => h.count.resolve_left e⟩, ?_⟩
      have e1 : (if v.kind = 3 then 0 else (v.pairs.length : Int)) = 0 := by
        split
        · rfl
        · rename_i e; rw [h.pairs.resolve_left e]; rfl
      have e2 : (if v.kind = 4 ∨ v.kind = 5 then 0 else (v.items.length : Int)) = 0 := by
        split
        · rfl
        · rename_i e
          rcases h.items with x | x | x
          · exact absurd (.inl x) e
          · exact absurd (.inr x) e
          · rw [x]; rfl
      have e3 : (if v.kind = 6 then 0 else (v.scores.length : Int)) = 0 := by
        split
        · rfl
        · rename_i e; rw [h.scores.resolve_left e]; rfl
      rw [e1, e2, e3]; omega
    rw [if_neg hb]
    have he : ¬ (3 ≤ v.kind ∧ (v.els < 1 ∨ 20 < v.els)) := by
      rintro ⟨e1, e2⟩
      have := h.els e1
      omega
    rw [if_neg he]
    have h1 : (!okText v.text || v.items.any longS) = false := by
      rw [h.okT]
      simp only [Bool.not_true, Bool.false_or]
      rw [List.any_eq_false]
      intro s hs; simp [longS, h.okI s hs]
    have h2 : v.pairs.any badP = false := by
      rw [List.any_eq_false]
      intro p hp; simp [badP, h.okP p hp]
    have h3 : v.scores.any longM = false := by
      rw [List.any_eq_false]
      intro p hp; simp [longM, h.okS p hp]
    have h4 : (!okCount v.count || v.scores.any farN) = false := by
      rw [h.okC]
      simp only [Bool.not_true, Bool.false_or]
      rw [List.any_eq_false]
      intro s hs; simp [farN, h.okS s hs]
    rw [h1, h2, h3, h4]
    simp only [Bool.false_eq_true, if_false]
    have h5 : v.order = true := by
      unfold Val.order Val.ord
      simp only [Bool.and_eq_true, Bool.or_eq_true, decide_eq_true_eq]
      refine ⟨⟨⟨(rising_iff bF_tr).2 h.riseP, (rising_iff bS_tr).2 h.riseS⟩, ?_⟩, onceB_iff.2 h.once⟩
      by_cases e : v.kind = 5
      · exact .inr ((rising_iff cmpB_tr).2 (h.riseI e))
      · exact .inl e
    rw [if_pos h5]
theorem OkV.small {v : Val} (h : OkV v) : v.Small := by
  unfold Val.Small
  have := h.els
  unfold Val.els at this
  by_cases hk : 3 ≤ v.kind
  · have := this hk; omega
  · have e1 := h.pairs.resolve_left (by omega)
    have e2 := (h.items.resolve_left (by omega)).resolve_left (by omega)
    have e3 := h.scores.resolve_left (by omega)
    rw [e1, e2, e3]; simp
end Go.Proofs.YtpdcfljbabpakaaGreatDoor
set_option linter.unusedVariables false
set_option linter.unusedSimpArgs false
set_option maxRecDepth 100000
set_option maxHeartbeats 8000000
namespace Go.Proofs.YtpdcfljbabpakaaGreatDoor
open Go Go.RowKit Go.Proofs.AE
variable {G : Nat → AV}
theorem do4_c (v : Val) (c : Cmd) (hk : c.kind = 4) (hv : v.kind = 3) (hs : v.Small) (h1 : ∀ (j : Nat) a, v.pairs[j]? = some a → hashAt v.pairs c.field ≤ j → 0 ≤ cmpB a.1 c.field) : DetCall Tryz.prog G 154 1 v.own [.one (.ptr 0 0), .agg c.c] (.agg (doV v c).2.c) (doV v c).1.own := by
  obtain ⟨k, t, n, p, l, s⟩ := v
  obtain ⟨s1, s2, s3⟩ := hs
  simp only at hv s1 s2 s3 h1
  subst hv
  have hc := hash4_c (G := G) 3 n t p (strRows l) (sR s) c hk s1 h1
  obtain ⟨kk, key, f, tx, cn⟩ := c
  simp only at hk
  subst hk
  unfold Val.own doV
  simp only
  generalize hashV p ⟨4, key, f, tx, cn⟩ = q at *
  unfold Cmd.c Rep.c at *
  simp only at hc
  refine gcallc mixed Tryz.func154 ac_value_do ?_
  repeat' (first | (with_reducible first | refine Cn (fun h => ?_) fun h => ?_ | refine And.intro ?_ ?_ | refine wR ?_ | exact wr _ _ | refine wa ?_ | apply awp_join | refine qg hc ?_ | refine qgd hc ?_) | (with_reducible refine CallZ.z ?_) | simp -dsimp [go_sem])
theorem do5_c (v : Val) (c : Cmd) (hk : c.kind = 5) (hv : v.kind = 3) (hs : v.Small) (h1 : ∀ (j : Nat) a, v.pairs[j]? = some a → hashAt v.pairs c.field ≤ j → 0 ≤ cmpB a.1 c.field) : DetCall Tryz.prog G 154 1 v.own [.one (.ptr 0 0), .agg c.c] (.agg (doV v c).2.c) (doV v c).1.own := by
  obtain ⟨k, t, n, p, l, s⟩ := v
  obtain ⟨s1, s2, s3⟩ := hs
  simp only at hv s1 s2 s3 h1
  subst hv
  have hc := hash5_c (G := G) 3 n t p (strRows l) (sR s) c hk s1 h1
  obtain ⟨kk, key, f, tx, cn⟩ := c
  simp only at hk
  subst hk
  unfold Val.own doV
  simp only
  generalize hashV p ⟨5, key, f, tx, cn⟩ = q at *
  unfold Cmd.c Rep.c at *
  simp only at hc
  refine gcallc mixed Tryz.func154 ac_value_do ?_
  repeat' (first | (with_reducible first | refine Cn (fun h => ?_) fun h => ?_ | refine And.intro ?_ ?_ | refine wR ?_ | exact wr _ _ | refine wa ?_ | apply awp_join | refine qg hc ?_ | refine qgd hc ?_) | (with_reducible refine CallZ.z ?_) | simp -dsimp [go_sem])
theorem do6_c (v : Val) (c : Cmd) (hk : c.kind = 6) (hv : v.kind = 3) (hs : v.Small) (h1 : ∀ (j : Nat) a, v.pairs[j]? = some a → hashAt v.pairs c.field ≤ j → 0 ≤ cmpB a.1 c.field) : DetCall Tryz.prog G 154 1 v.own [.one (.ptr 0 0), .agg c.c] (.agg (doV v c).2.c) (doV v c).1.own := by
  obtain ⟨k, t, n, p, l, s⟩ := v
  obtain ⟨s1, s2, s3⟩ := hs
  simp only at hv s1 s2 s3 h1
  subst hv
  have hc := hash6_c (G := G) 3 n t p (strRows l) (sR s) c hk s1 h1
  obtain ⟨kk, key, f, tx, cn⟩ := c
  simp only at hk
  subst hk
  unfold Val.own doV
  simp only
  generalize hashV p ⟨6, key, f, tx, cn⟩ = q at *
  unfold Cmd.c Rep.c at *
  simp only at hc
  refine gcallc mixed Tryz.func154 ac_value_do ?_
  repeat' (first | (with_reducible first | refine Cn (fun h => ?_) fun h => ?_ | refine And.intro ?_ ?_ | refine wR ?_ | exact wr _ _ | refine wa ?_ | apply awp_join | refine qg hc ?_ | refine qgd hc ?_) | (with_reducible refine CallZ.z ?_) | simp -dsimp [go_sem])
theorem do7_c (v : Val) (c : Cmd) (hk : c.kind = 7) (hv : v.kind = 4) (hs : v.Small) : DetCall Tryz.prog G 154 1 v.own [.one (.ptr 0 0), .agg c.c] (.agg (doV v c).2.c) (doV v c).1.own := by
  obtain ⟨k, t, n, p, l, s⟩ := v
  obtain ⟨s1, s2, s3⟩ := hs
  simp only at hv s1 s2 s3
  subst hv
  have hc := list7_c (G := G) 4 n t l (pR p) (sR s) c hk s2
  obtain ⟨kk, key, f, tx, cn⟩ := c
  simp only at hk
  subst hk
  unfold Val.own doV
  simp only
  generalize listV l ⟨7, key, f, tx, cn⟩ = q at *
  unfold Cmd.c Rep.c at *
  simp only at hc
  refine gcallc mixed Tryz.func154 ac_value_do ?_
  repeat' (first | (with_reducible first | refine Cn (fun h => ?_) fun h => ?_ | refine And.intro ?_ ?_ | refine wR ?_ | exact wr _ _ | refine wa ?_ | apply awp_join | refine qg hc ?_ | refine qgd hc ?_) | (with_reducible refine CallZ.z ?_) | simp -dsimp [go_sem])
theorem do8_c (v : Val) (c : Cmd) (hk : c.kind = 8) (hv : v.kind = 4) (hs : v.Small) : DetCall Tryz.prog G 154 1 v.own [.one (.ptr 0 0), .agg c.c] (.agg (doV v c).2.c) (doV v c).1.own := by
  obtain ⟨k, t, n, p, l, s⟩ := v
  obtain ⟨s1, s2, s3⟩ := hs
  simp only at hv s1 s2 s3
  subst hv
  have hc := list8_c (G := G) 4 n t l (pR p) (sR s) c hk s2
  obtain ⟨kk, key, f, tx, cn⟩ := c
  simp only at hk
  subst hk
  unfold Val.own doV
  simp only
  generalize listV l ⟨8, key, f, tx, cn⟩ = q at *
  unfold Cmd.c Rep.c at *
  simp only at hc
  refine gcallc mixed Tryz.func154 ac_value_do ?_
  repeat' (first | (with_reducible first | refine Cn (fun h => ?_) fun h => ?_ | refine And.intro ?_ ?_ | refine wR ?_ | exact wr _ _ | refine wa ?_ | apply awp_join | refine qg hc ?_ | refine qgd hc ?_) | (with_reducible refine CallZ.z ?_) | simp -dsimp [go_sem])
theorem do11_c (v : Val) (c : Cmd) (hk : c.kind = 11) (hv : v.kind = 5) (hs : v.Small) (h1 : ∀ (j : Nat) a, v.items[j]? = some a → setAt v.items c.text ≤ j → lessB a c.text = false) : DetCall Tryz.prog G 154 1 v.own [.one (.ptr 0 0), .agg c.c] (.agg (doV v c).2.c) (doV v c).1.own := by
  obtain ⟨k, t, n, p, l, s⟩ := v
  obtain ⟨s1, s2, s3⟩ := hs
  simp only at hv s1 s2 s3 h1
  subst hv
  have hc := set11_c (G := G) 5 n t l (pR p) (sR s) c hk s2 h1
  obtain ⟨kk, key, f, tx, cn⟩ := c
  simp only at hk
  subst hk
  unfold Val.own doV
  simp only
  generalize setV l ⟨11, key, f, tx, cn⟩ = q at *
  unfold Cmd.c Rep.c at *
  simp only at hc
  refine gcallc mixed Tryz.func154 ac_value_do ?_
  repeat' (first | (with_reducible first | refine Cn (fun h => ?_) fun h => ?_ | refine And.intro ?_ ?_ | refine wR ?_ | exact wr _ _ | refine wa ?_ | apply awp_join | refine qg hc ?_ | refine qgd hc ?_) | (with_reducible refine CallZ.z ?_) | simp -dsimp [go_sem])
theorem do12_c (v : Val) (c : Cmd) (hk : c.kind = 12) (hv : v.kind = 5) (hs : v.Small) (h1 : ∀ (j : Nat) a, v.items[j]? = some a → setAt v.items c.text ≤ j → lessB a c.text = false) : DetCall Tryz.prog G 154 1 v.own [.one (.ptr 0 0), .agg c.c] (.agg (doV v c).2.c) (doV v c).1.own := by
  obtain ⟨k, t, n, p, l, s⟩ := v
  obtain ⟨s1, s2, s3⟩ := hs
  simp only at hv s1 s2 s3 h1
  subst hv
  have hc := set12_c (G := G) 5 n t l (pR p) (sR s) c hk s2 h1
  obtain ⟨kk, key, f, tx, cn⟩ := c
  simp only at hk
  subst hk
  unfold Val.own doV
  simp only
  generalize setV l ⟨12, key, f, tx, cn⟩ = q at *
  unfold Cmd.c Rep.c at *
  simp only at hc
  refine gcallc mixed Tryz.func154 ac_value_do ?_
  repeat' (first | (with_reducible first | refine Cn (fun h => ?_) fun h => ?_ | refine And.intro ?_ ?_ | refine wR ?_ | exact wr _ _ | refine wa ?_ | apply awp_join | refine qg hc ?_ | refine qgd hc ?_) | (with_reducible refine CallZ.z ?_) | simp -dsimp [go_sem])
theorem do13_c (v : Val) (c : Cmd) (hk : c.kind = 13) (hv : v.kind = 5) (hs : v.Small) (h1 : ∀ (j : Nat) a, v.items[j]? = some a → setAt v.items c.text ≤ j → lessB a c.text = false) : DetCall Tryz.prog G 154 1 v.own [.one (.ptr 0 0), .agg c.c] (.agg (doV v c).2.c) (doV v c).1.own := by
  obtain ⟨k, t, n, p, l, s⟩ := v
  obtain ⟨s1, s2, s3⟩ := hs
  simp only at hv s1 s2 s3 h1
  subst hv
  have hc := set13_c (G := G) 5 n t l (pR p) (sR s) c hk s2 h1
  obtain ⟨kk, key, f, tx, cn⟩ := c
  simp only at hk
  subst hk
  unfold Val.own doV
  simp only
  generalize setV l ⟨13, key, f, tx, cn⟩ = q at *
  unfold Cmd.c Rep.c at *
  simp only at hc
  refine gcallc mixed Tryz.func154 ac_value_do ?_
  repeat' (first | (with_reducible first | refine Cn (fun h => ?_) fun h => ?_ | refine And.intro ?_ ?_ | refine wR ?_ | exact wr _ _ | refine wa ?_ | apply awp_join | refine qg hc ?_ | refine qgd hc ?_) | (with_reducible refine CallZ.z ?_) | simp -dsimp [go_sem])
theorem do14_c (v : Val) (c : Cmd) (hk : c.kind = 14) (hv : v.kind = 6) (hs : v.Small) (h1 : ∀ (j : Nat) a, (rankCut v.scores c.text)[j]? = some a → rankAt (rankCut v.scores c.text) c.text c.n ≤ j → 0 ≤ bS a (c.text, c.n)) : DetCall Tryz.prog G 154 1 v.own [.one (.ptr 0 0), .agg c.c] (.agg (doV v c).2.c) (doV v c).1.own := by
  obtain ⟨k, t, n, p, l, s⟩ := v
  obtain ⟨s1, s2, s3⟩ := hs
  simp only at hv s1 s2 s3 h1
  subst hv
  have hc := ranks14_c (G := G) 6 n t s (pR p) (strRows l) c hk s3 h1
  obtain ⟨kk, key, f, tx, cn⟩ := c
  simp only at hk
  subst hk
  unfold Val.own doV
  simp only
  generalize ranksV s ⟨14, key, f, tx, cn⟩ = q at *
  unfold Cmd.c Rep.c at *
  simp only at hc
  refine gcallc mixed Tryz.func154 ac_value_do ?_
  repeat' (first | (with_reducible first | refine Cn (fun h => ?_) fun h => ?_ | refine And.intro ?_ ?_ | refine wR ?_ | exact wr _ _ | refine wa ?_ | apply awp_join | refine qg hc ?_ | refine qgd hc ?_) | (with_reducible refine CallZ.z ?_) | simp -dsimp [go_sem])
theorem do15_c (v : Val) (c : Cmd) (hk : c.kind = 15) (hv : v.kind = 6) (hs : v.Small) (h1 : ∀ (j : Nat) a, (rankCut v.scores c.text)[j]? = some a → rankAt (rankCut v.scores c.text) c.text c.n ≤ j → 0 ≤ bS a (c.text, c.n)) : DetCall Tryz.prog G 154 1 v.own [.one (.ptr 0 0), .agg c.c] (.agg (doV v c).2.c) (doV v c).1.own := by
  obtain ⟨k, t, n, p, l, s⟩ := v
  obtain ⟨s1, s2, s3⟩ := hs
  simp only at hv s1 s2 s3 h1
  subst hv
  have hc := ranks15_c (G := G) 6 n t s (pR p) (strRows l) c hk s3 h1
  obtain ⟨kk, key, f, tx, cn⟩ := c
  simp only at hk
  subst hk
  unfold Val.own doV
  simp only
  generalize ranksV s ⟨15, key, f, tx, cn⟩ = q at *
  unfold Cmd.c Rep.c at *
  simp only at hc
  refine gcallc mixed Tryz.func154 ac_value_do ?_
  repeat' (first | (with_reducible first | refine Cn (fun h => ?_) fun h => ?_ | refine And.intro ?_ ?_ | refine wR ?_ | exact wr _ _ | refine wa ?_ | apply awp_join | refine qg hc ?_ | refine qgd hc ?_) | (with_reducible refine CallZ.z ?_) | simp -dsimp [go_sem])
theorem do16_c (v : Val) (c : Cmd) (hk : c.kind = 16) (hv : v.kind = 6) (hs : v.Small) (h1 : ∀ (j : Nat) a, (rankCut v.scores c.text)[j]? = some a → rankAt (rankCut v.scores c.text) c.text c.n ≤ j → 0 ≤ bS a (c.text, c.n)) : DetCall Tryz.prog G 154 1 v.own [.one (.ptr 0 0), .agg c.c] (.agg (doV v c).2.c) (doV v c).1.own := by
  obtain ⟨k, t, n, p, l, s⟩ := v
  obtain ⟨s1, s2, s3⟩ := hs
  simp only at hv s1 s2 s3 h1
  subst hv
  have hc := ranks16_c (G := G) 6 n t s (pR p) (strRows l) c hk s3 h1
  obtain ⟨kk, key, f, tx, cn⟩ := c
  simp only at hk
  subst hk
  unfold Val.own doV
  simp only
  generalize ranksV s ⟨16, key, f, tx, cn⟩ = q at *
  unfold Cmd.c Rep.c at *
  simp only at hc
  refine gcallc mixed Tryz.func154 ac_value_do ?_
  repeat' (first | (with_reducible first | refine Cn (fun h => ?_) fun h => ?_ | refine And.intro ?_ ?_ | refine wR ?_ | exact wr _ _ | refine wa ?_ | apply awp_join | refine qg hc ?_ | refine qgd hc ?_) | (with_reducible refine CallZ.z ?_) | simp -dsimp [go_sem])
end Go.Proofs.YtpdcfljbabpakaaGreatDoor
set_option linter.unusedVariables false
set_option linter.unusedSimpArgs false
set_option maxRecDepth 100000
set_option maxHeartbeats 8000000
namespace Go.Proofs.YtpdcfljbabpakaaGreatDoor
open Go Go.RowKit Go.Proofs.AE
variable {G : Nat → AV}
theorem DoV_zero {c : Cmd} (hc : checkC c = 0) (hk : c.kind ≤ 18) : DoV zeroV c = if makesC c.kind = true then DoEnd zeroV (doV ⟨kindOfC c.kind, ⟨#[]⟩, 0, [], [], []⟩ c) else (zeroV, failR 5, 0) := by
  unfold DoV DoEnd
  rw [zero_none]
  simp only [Bool.true_eq_false, and_false, if_false, true_and, if_true, false_and]
  rw [if_neg (by rw [hc]; simp), if_neg (by omega)]
  cases makesC c.kind with
  | true => simp only [if_true, Bool.true_eq_false, if_false]; rfl
  | false => simp
theorem checkC_kind {c : Cmd} (h : checkC c = 0) : 1 ≤ c.kind := by
  unfold checkC checkCommand at h
  by_cases h1 : c.kind < 1
  · rw [if_pos h1] at h; cases h
  · omega
theorem Do_c (v : Val) (c : Cmd) (hs : v.Small) : PCall Tryz.prog G 138 [.agg v.c, .agg c.c] (DoA (DoV v c)) := by
  by_cases hb : checkV v ≠ 0 ∧ v.isNone = false
  · have e : DoV v c = (zeroV, toldR 0, checkV v) := by unfold DoV; rw [if_pos hb]
    rw [e]; exact doBad_c v c hs hb.1 hb.2
  have hv : checkV v = 0 ∨ v.isNone = true := by
    by_cases h : checkV v = 0
    · exact .inl h
    · right
      cases hn : v.isNone with
      | true => rfl
      | false => exact absurd ⟨h, hn⟩ hb
  by_cases hc : checkC c ≠ 0
  · have e : DoV v c = (zeroV, toldR 0, checkC c) := by unfold DoV; rw [if_neg hb, if_pos hc]
    rw [e]; exact doC_c v c hs hv hc
  have hc0 : checkC c = 0 := Classical.not_not.1 hc
  by_cases hk : 18 < c.kind
  · have e : DoV v c = (zeroV, toldR 0, 3) := by unfold DoV; rw [if_neg hb, if_neg hc, if_pos hk]
    rw [e]; exact doBig_c v c hs hv hc0 hk
  have hk1 := checkC_kind hc0
  have hkk : c.kind = 1 ∨ c.kind = 2 ∨ c.kind = 3 ∨ c.kind = 4 ∨ c.kind = 5 ∨ c.kind = 6 ∨ c.kind = 7 ∨ c.kind = 8 ∨ c.kind = 9 ∨ c.kind = 10 ∨ c.kind = 11 ∨ c.kind = 12 ∨ c.kind = 13 ∨ c.kind = 14 ∨ c.kind = 15 ∨ c.kind = 16 ∨ c.kind = 17 ∨ c.kind = 18 := by omega
  rcases hv with hv | hv
  · have ok := checkV_iff.1 hv
    obtain ⟨k1, k2⟩ := ok.kind
    by_cases hm : (kindOfC c.kind ≠ 0 ∧ kindOfC c.kind ≠ v.kind) ∨ (17 ≤ c.kind ∧ v.kind < 3)
    · rw [DoV_type hv hc0 (by omega) hm]
      exact doType_c v c hk1 (by omega) hs hv hc0 hm
    · rw [DoV_go hv hc0 (by omega) hm]
      have rP := (rising_iff bF_tr).2 ok.riseP
      have rS := (rising_iff bS_tr).2 ok.riseS
      rcases hkk with h | h | h | h | h | h | h | h | h | h | h | h | h | h | h | h | h | h
      · exact doGoP_c v c (by omega) (by omega) hm hs hv hc0 (do1_c v c h hs)
      · exact doGoP_c v c (by omega) (by omega) hm hs hv hc0 (do2_c v c h hs)
      · exact doGoP_c v c (by omega) (by omega) hm hs hv hc0 (do3_c v c h ok.okC (by
          unfold checkC checkCommand at hc0
          cases hn : okCount c.n with
          | true => rfl
          | false => exfalso; rw [hn] at hc0; repeat' split at hc0
                     all_goals simp_all))
      · have hkv : v.kind = 3 := by rw [h] at hm; simp [kindOfC] at hm; omega
        exact doGoO_c v c (by omega) (by omega) (by omega) (by rw [h, hkv]; rfl) hs hv hc0 (do4_c v c h hkv hs (hash_ge rP c.field))
      · have hkv : v.kind = 3 := by rw [h] at hm; simp [kindOfC] at hm; omega
        exact doGoO_c v c (by omega) (by omega) (by omega) (by rw [h, hkv]; rfl) hs hv hc0 (do5_c v c h hkv hs (hash_ge rP c.field))
      · have hkv : v.kind = 3 := by rw [h] at hm; simp [kindOfC] at hm; omega
        exact doGoO_c v c (by omega) (by omega) (by omega) (by rw [h, hkv]; rfl) hs hv hc0 (do6_c v c h hkv hs (hash_ge rP c.field))
      · have hkv : v.kind = 4 := by rw [h] at hm; simp [kindOfC] at hm; omega
        exact doGoO_c v c (by omega) (by omega) (by omega) (by rw [h, hkv]; rfl) hs hv hc0 (do7_c v c h hkv hs)
      · have hkv : v.kind = 4 := by rw [h] at hm; simp [kindOfC] at hm; omega
        exact doGoO_c v c (by omega) (by omega) (by omega) (by rw [h, hkv]; rfl) hs hv hc0 (do8_c v c h hkv hs)
      · have hkv : v.kind = 4 := by rw [h] at hm; simp [kindOfC] at hm; omega
        have h0 : 0 < v.items.length := by
          have := ok.els (by omega)
          unfold Val.els at this
          rw [ok.pairs.resolve_left (by omega), ok.scores.resolve_left (by omega)] at this
          simp at this; omega
        exact doGoP_c v c (by omega) (by omega) hm hs hv hc0 (do9_c v c h hkv hs h0)
      · have hkv : v.kind = 4 := by rw [h] at hm; simp [kindOfC] at hm; omega
        have h0 : 0 < v.items.length := by
          have := ok.els (by omega)
          unfold Val.els at this
          rw [ok.pairs.resolve_left (by omega), ok.scores.resolve_left (by omega)] at this
          simp at this; omega
        exact doGoP_c v c (by omega) (by omega) hm hs hv hc0 (do10_c v c h hkv hs h0)
      · have hkv : v.kind = 5 := by rw [h] at hm; simp [kindOfC] at hm; omega
        exact doGoO_c v c (by omega) (by omega) (by omega) (by rw [h, hkv]; rfl) hs hv hc0 (do11_c v c h hkv hs (set_ge ((rising_iff cmpB_tr).2 (ok.riseI hkv)) c.text))
      · have hkv : v.kind = 5 := by rw [h] at hm; simp [kindOfC] at hm; omega
        exact doGoO_c v c (by omega) (by omega) (by omega) (by rw [h, hkv]; rfl) hs hv hc0 (do12_c v c h hkv hs (set_ge ((rising_iff cmpB_tr).2 (ok.riseI hkv)) c.text))
      · have hkv : v.kind = 5 := by rw [h] at hm; simp [kindOfC] at hm; omega
        exact doGoO_c v c (by omega) (by omega) (by omega) (by rw [h, hkv]; rfl) hs hv hc0 (do13_c v c h hkv hs (set_ge ((rising_iff cmpB_tr).2 (ok.riseI hkv)) c.text))
      · have hkv : v.kind = 6 := by rw [h] at hm; simp [kindOfC] at hm; omega
        exact doGoO_c v c (by omega) (by omega) (by omega) (by rw [h, hkv]; rfl) hs hv hc0 (do14_c v c h hkv hs (rank_ge rS c.text c.n))
      · have hkv : v.kind = 6 := by rw [h] at hm; simp [kindOfC] at hm; omega
        exact doGoO_c v c (by omega) (by omega) (by omega) (by rw [h, hkv]; rfl) hs hv hc0 (do15_c v c h hkv hs (rank_ge rS c.text c.n))
      · have hkv : v.kind = 6 := by rw [h] at hm; simp [kindOfC] at hm; omega
        exact doGoO_c v c (by omega) (by omega) (by omega) (by rw [h, hkv]; rfl) hs hv hc0 (do16_c v c h hkv hs (rank_ge rS c.text c.n))
      · exact doGoP_c v c (by omega) (by omega) hm hs hv hc0 (do17_c v c h hs)
      · exact doGoP_c v c (by omega) (by omega) hm hs hv hc0 (do18_c v c h hs)
  · have := none_zero hv
    subst this
    rw [DoV_zero hc0 (by omega)]
    rcases hkk with h | h | h | h | h | h | h | h | h | h | h | h | h | h | h | h | h | h
    · rw [if_pos (by rw [h]; rfl)]; exact doMakeP_c c (by omega) hc0 (by rw [h]; exact do1_c ⟨0, ⟨#[]⟩, 0, [], [], []⟩ c h zeroV_small)
    · rw [if_neg (by rw [h]; decide)]; exact doZero_c c hk1 (by omega) (by rw [h]; rfl) hc0
    · rw [if_pos (by rw [h]; rfl)]; exact doMakeP_c c (by omega) hc0 (by rw [h]; exact do3_c ⟨2, ⟨#[]⟩, 0, [], [], []⟩ c h (by decide) (by
          unfold checkC checkCommand at hc0
          cases hn : okCount c.n with
          | true => rfl
          | false => exfalso; rw [hn] at hc0; repeat' split at hc0
                     all_goals simp_all))
    · rw [if_pos (by rw [h]; rfl)]; exact doMakeO_c c (by omega) (by omega) (by rw [h]; rfl) (by rw [h]; decide) hc0 (by rw [h]; exact do4_c ⟨3, ⟨#[]⟩, 0, [], [], []⟩ c h rfl zeroV_small (hash_ge rfl c.field))
    · rw [if_neg (by rw [h]; decide)]; exact doZero_c c hk1 (by omega) (by rw [h]; rfl) hc0
    · rw [if_neg (by rw [h]; decide)]; exact doZero_c c hk1 (by omega) (by rw [h]; rfl) hc0
    · rw [if_pos (by rw [h]; rfl)]; exact doMakeO_c c (by omega) (by omega) (by rw [h]; rfl) (by rw [h]; decide) hc0 (by rw [h]; exact do7_c ⟨4, ⟨#[]⟩, 0, [], [], []⟩ c h rfl zeroV_small)
    · rw [if_pos (by rw [h]; rfl)]; exact doMakeO_c c (by omega) (by omega) (by rw [h]; rfl) (by rw [h]; decide) hc0 (by rw [h]; exact do8_c ⟨4, ⟨#[]⟩, 0, [], [], []⟩ c h rfl zeroV_small)
    · rw [if_neg (by rw [h]; decide)]; exact doZero_c c hk1 (by omega) (by rw [h]; rfl) hc0
    · rw [if_neg (by rw [h]; decide)]; exact doZero_c c hk1 (by omega) (by rw [h]; rfl) hc0
    · rw [if_pos (by rw [h]; rfl)]; exact doMakeO_c c (by omega) (by omega) (by rw [h]; rfl) (by rw [h]; decide) hc0 (by rw [h]; exact do11_c ⟨5, ⟨#[]⟩, 0, [], [], []⟩ c h rfl zeroV_small (set_ge rfl c.text))
    · rw [if_neg (by rw [h]; decide)]; exact doZero_c c hk1 (by omega) (by rw [h]; rfl) hc0
    · rw [if_neg (by rw [h]; decide)]; exact doZero_c c hk1 (by omega) (by rw [h]; rfl) hc0
    · rw [if_pos (by rw [h]; rfl)]; exact doMakeO_c c (by omega) (by omega) (by rw [h]; rfl) (by rw [h]; decide) hc0 (by rw [h]; exact do14_c ⟨6, ⟨#[]⟩, 0, [], [], []⟩ c h rfl zeroV_small (rank_ge rfl c.text c.n))
    · rw [if_neg (by rw [h]; decide)]; exact doZero_c c hk1 (by omega) (by rw [h]; rfl) hc0
    · rw [if_neg (by rw [h]; decide)]; exact doZero_c c hk1 (by omega) (by rw [h]; rfl) hc0
    · rw [if_neg (by rw [h]; decide)]; exact doZero_c c hk1 (by omega) (by rw [h]; rfl) hc0
    · rw [if_neg (by rw [h]; decide)]; exact doZero_c c hk1 (by omega) (by rw [h]; rfl) hc0
end Go.Proofs.YtpdcfljbabpakaaGreatDoor
set_option linter.unusedVariables false
set_option linter.unusedSimpArgs false
set_option maxRecDepth 100000
set_option maxHeartbeats 8000000
namespace Go.Proofs.YtpdcfljbabpakaaGreatDoor
open Go Go.RowKit Go.Proofs.AE
theorem checkC_facts {c : Cmd} (h : checkC c = 0) : 1 ≤ c.kind ∧ c.kind ≤ 22 ∧ okText c.text = true ∧ okCount c.n = true ∧ (4 ≤ c.kind → c.kind ≤ 6 → okField c.field = true) := by
  unfold checkC checkCommand at h
  by_cases h1 : c.kind < 1
  · rw [if_pos h1] at h; cases h
  rw [if_neg h1] at h
  by_cases h2 : 22 < c.kind
  · rw [if_pos h2] at h; cases h
  rw [if_neg h2] at h
  by_cases h3 : formOk c.kind c.key c.field c.text c.n = false
  · rw [if_pos h3] at h; cases h
  rw [if_neg h3] at h
  by_cases h4 : ((c.kind != 22 && !okField c.key || (c.kind == 4 || c.kind == 5 || c.kind == 6) && !okField c.field) || !okText c.text) = true
  · rw [if_pos h4] at h; cases h
  rw [if_neg h4] at h
  by_cases h5 : okCount c.n = false
  · rw [if_pos h5] at h; cases h
  simp only [Bool.or_eq_true, Bool.and_eq_true, not_or, not_and, Bool.not_eq_true', Bool.not_eq_false, beq_iff_eq] at h4 h5
  refine ⟨by omega, by omega, h4.2, h5, fun h6 h7 => ?_⟩
  exact h4.1.2 (by omega)
structure OkB (v : Val) : Prop where
  kind : 1 ≤ v.kind ∧ v.kind ≤ 6
  text : v.kind = 1 ∨ v.text = ⟨#[]⟩
  count : v.kind = 2 ∨ v.count = 0
  pairs : v.kind = 3 ∨ v.pairs = []
  items : v.kind = 4 ∨ v.kind = 5 ∨ v.items = []
  scores : v.kind = 6 ∨ v.scores = []
  els : v.els ≤ 20
  okT : okText v.text = true
  okI : ∀ s ∈ v.items, okText s = true
  okP : ∀ p ∈ v.pairs, okField p.1 = true ∧ okText p.2 = true
  okS : ∀ s ∈ v.scores, okText s.1 = true ∧ okCount s.2 = true
  okC : okCount v.count = true
  riseP : v.pairs.Pairwise (fun a b => bF a b < 0)
  riseS : v.scores.Pairwise (fun a b => bS a b < 0)
  riseI : v.kind = 5 → v.items.Pairwise (fun a b => cmpB a b < 0)
  once : v.scores.Pairwise (fun a b => a.1 ≠ b.1)
theorem OkB.ok {v : Val} (h : OkB v) (h1 : ¬ (3 ≤ v.kind ∧ v.els = 0)) : OkV v :=
  ⟨h.kind, h.text, h.count, h.pairs, h.items, h.scores, fun hk => by have := h.els; have : 0 ≤ v.els := by (unfold Val.els; omega)
                                                                     omega, h.okT, h.okI, h.okP, h.okS, h.okC, h.riseP, h.riseS, h.riseI, h.once⟩
theorem OkV.b {v : Val} (h : OkV v) : OkB v := by
  refine ⟨h.kind, h.text, h.count, h.pairs, h.items, h.scores, ?_, h.okT, h.okI, h.okP, h.okS, h.okC, h.riseP, h.riseS, h.riseI, h.once⟩
  by_cases hk : 3 ≤ v.kind
  · exact (h.els hk).2
  · unfold Val.els
    rw [h.pairs.resolve_left (by omega), (h.items.resolve_left (by omega)).resolve_left (by omega), h.scores.resolve_left (by omega)]
    simp
theorem fresh_b {k : Int} (h1 : 1 ≤ k) (h2 : k ≤ 6) : OkB ⟨k, ⟨#[]⟩, 0, [], [], []⟩ :=
  ⟨⟨h1, h2⟩, .inr rfl, .inr rfl, .inr rfl, .inr (.inr rfl), .inr rfl, by simp [Val.els], rfl, by simp, by simp, by simp, rfl, .nil, .nil, fun _ => .nil, .nil⟩
theorem mem_ins {α : Type} {l : List α} {i : Nat} {x y : α} (h : y ∈ insAt l i x) : y = x ∨ y ∈ l := by
  unfold insAt at h
  rcases List.mem_append.1 h with h | h
  · exact .inr (List.mem_of_mem_take h)
  · rcases List.mem_cons.1 h with h | h
    · exact .inl h
    · exact .inr (List.mem_of_mem_drop h)
theorem mem_del {α : Type} {l : List α} {i : Nat} {y : α} (h : y ∈ delAt l i) : y ∈ l := by
  unfold delAt at h
  rcases List.mem_append.1 h with h | h
  · exact List.mem_of_mem_take h
  · exact List.mem_of_mem_drop h
theorem del_sub {α : Type} (l : List α) (i : Nat) : (delAt l i).Sublist l := by
  unfold delAt
  have e : l.drop (i + 1) = (l.drop i).drop 1 := by rw [List.drop_drop]
  have h : (l.take i ++ l.drop (i + 1)).Sublist (l.take i ++ l.drop i) := List.Sublist.append (List.Sublist.refl _) (by rw [e]; exact List.drop_sublist _ _)
  rwa [List.take_append_drop] at h
theorem pair_ins {α : Type} {R : α → α → Prop} {l : List α} {i : Nat} {x : α} (h : l.Pairwise R) (h1 : ∀ a ∈ l.take i, R a x) (h2 : ∀ b ∈ l.drop i, R x b) : (insAt l i x).Pairwise R := by
  unfold insAt
  have hs : (l.take i ++ l.drop i).Pairwise R := by rw [List.take_append_drop]; exact h
  rw [List.pairwise_append] at hs ⊢
  refine ⟨hs.1, List.pairwise_cons.2 ⟨h2, hs.2.1⟩, fun a ha b hb => ?_⟩
  rcases List.mem_cons.1 hb with rfl | hb
  · exact h1 a ha
  · exact hs.2.2 a ha b hb
theorem take_lt {α : Type} (lt : α → Bool) (l : List α) : ∀ a ∈ l.take (plc lt l), lt a = true := by
  intro a ha
  rw [List.mem_take_iff_getElem] at ha
  obtain ⟨j, hj, rfl⟩ := ha
  exact plc_lt lt l j _ (List.getElem?_eq_getElem (by omega)) (by omega)
theorem mem_drop_get {α : Type} {l : List α} {i : Nat} {b : α} (h : b ∈ l.drop i) : ∃ j, i ≤ j ∧ l[j]? = some b := by
  obtain ⟨j, hj⟩ := List.getElem?_of_mem h
  rw [List.getElem?_drop] at hj
  exact ⟨i + j, by omega, hj⟩
theorem set_same_map {ps : List Pr} {i : Nat} {a : Pr} (h : ps[i]? = some a) (t : ByteArray) : (ps.set i (a.1, t)).map (·.1) = ps.map (·.1) := by
  rw [List.map_set]
  apply List.ext_getElem?
  intro j
  rw [List.getElem?_set]
  split
  · rename_i e; subst e
    obtain ⟨hlt, he⟩ := List.getElem?_eq_some_iff.1 h
    simp [hlt, he]
  · rfl
theorem pw_fst {ps qs : List Pr} (h : qs.map (·.1) = ps.map (·.1)) (hp : ps.Pairwise (fun a b => bF a b < 0)) : qs.Pairwise (fun a b => bF a b < 0) := by
  have h1 : (ps.map (·.1)).Pairwise (fun a b => cmpB a b < 0) := List.pairwise_map.2 hp
  rw [← h] at h1
  exact List.pairwise_map.1 h1
theorem hashIn_some {ps : List Pr} {f : ByteArray} (h : hashIn ps f = true) : ∃ a, ps[hashAt ps f]? = some a ∧ a.1 = f := by
  unfold hashIn at_api_Pair at h
  cases hx : ps[hashAt ps f]? with
  | none => rw [hx] at h; cases h
  | some a =>
    rw [hx] at h
    exact ⟨a, rfl, cmpB_eq (by simpa using h)⟩
theorem hash_drop {ps : List Pr} {f : ByteArray} (hp : ps.Pairwise (fun a b => bF a b < 0)) (h : hashIn ps f = false) : ∀ b ∈ ps.drop (hashAt ps f), cmpB f b.1 < 0 := by
  intro b hb
  obtain ⟨j, hj, hbj⟩ := mem_drop_get hb
  have hge := hash_ge ((rising_iff bF_tr).2 hp) f j b hbj hj
  have hne : cmpB b.1 f ≠ 0 := by
    intro e
    rcases Nat.lt_or_ge (hashAt ps f) j with hlt | hge'
    ·
      have hlen := lt_of_getElem? hbj
      have ha : ps[hashAt ps f]? = some ps[hashAt ps f] := List.getElem?_eq_getElem (by omega)
      have h1 := hash_ge ((rising_iff bF_tr).2 hp) f _ _ ha (Nat.le_refl _)
      have h2 : bF ps[hashAt ps f] ps[j] < 0 := List.pairwise_iff_getElem.1 hp _ _ (by omega) hlen hlt
      rw [List.getElem?_eq_getElem hlen] at hbj
      have hb' : ps[j] = b := Option.some.inj hbj
      rw [hb'] at h2
      have h3 := cmpB_eq e
      change cmpB ps[hashAt ps f].1 b.1 < 0 at h2
      rw [h3] at h2; omega
    · have : j = hashAt ps f := by omega
      subst this
      unfold hashIn at_api_Pair at h
      rw [hbj] at h
      simp at h
      exact h e
  rw [cmpB_anti]; omega
theorem hash_ok {ps : List Pr} {c : Cmd} (hp : ps.Pairwise (fun a b => bF a b < 0)) (ho : ∀ p ∈ ps, okField p.1 = true ∧ okText p.2 = true) (hl : ps.length ≤ 20) (hf : okField c.field = true) (ht : okText c.text = true) (hc : (hashV ps c).2.code = 0) :
    (hashV ps c).1.Pairwise (fun a b => bF a b < 0) ∧ (∀ p ∈ (hashV ps c).1, okField p.1 = true ∧ okText p.2 = true) ∧ (hashV ps c).1.length ≤ 20 := by
  unfold hashV at hc ⊢
  simp only at hc ⊢
  by_cases h4 : c.kind = 4
  · rw [if_pos h4] at hc ⊢
    cases hin : hashIn ps c.field with
    | true =>
      obtain ⟨a, ha, hx⟩ := hashIn_some hin
      simp only [if_true, ha, Option.getD_some]
      refine ⟨pw_fst (set_same_map ha c.text) hp, ?_, by simpa using hl⟩
      intro p h
      rcases List.mem_or_eq_of_mem_set h with h | h
      · exact ho p h
      · rw [h]; exact ⟨(ho a (List.mem_of_getElem? ha)).1, ht⟩
    | false =>
      rw [hin] at hc
      simp only [Bool.false_eq_true, if_false] at hc ⊢
      by_cases h20 : ps.length = 20
      · rw [if_pos h20] at hc; simp [failR] at hc
      · rw [if_neg h20]
        refine ⟨pair_ins hp (fun a ha => ?_) (fun b hb => ?_), ?_, ?_⟩
        · have := take_lt (fun p : Pr => decide (cmpB p.1 c.field < 0)) ps a ha
          simpa using this
        · exact hash_drop hp hin b hb
        · intro p h
          rcases mem_ins h with rfl | h
          · exact ⟨hf, ht⟩
          · exact ho p h
        · rw [insAt_length]; omega
  · rw [if_neg h4]
    by_cases h5 : c.kind = 5
    · rw [if_pos h5]
      split <;> exact ⟨hp, ho, hl⟩
    · rw [if_neg h5]
      split
      · exact ⟨hp.sublist (del_sub _ _), fun p h => ho p (mem_del h), Nat.le_trans (delAt_length _ _) hl⟩
      · exact ⟨hp, ho, hl⟩
theorem list_ok {l : List ByteArray} {c : Cmd} (ho : ∀ s ∈ l, okText s = true) (hl : l.length ≤ 20) (ht : okText c.text = true) (hk : 7 ≤ c.kind) (hc : (listV l c).2.code = 0) : (∀ s ∈ (listV l c).1, okText s = true) ∧ (listV l c).1.length ≤ 20 := by
  unfold listV at hc ⊢
  by_cases h1 : c.kind ≤ 8 ∧ l.length = 20
  · rw [if_pos h1] at hc; simp [failR] at hc
  rw [if_neg h1]
  by_cases h7 : c.kind = 7
  · rw [if_pos h7]
    refine ⟨fun s h => ?_, ?_⟩
    · rcases List.mem_append.1 h with h | h
      · exact ho s h
      · simp at h; subst h; exact ht
    · simp; omega
  rw [if_neg h7]
  by_cases h8 : c.kind = 8
  · rw [if_pos h8]
    refine ⟨fun s h => ?_, ?_⟩
    · rcases List.mem_cons.1 h with h | h
      · rw [h]; exact ht
      · exact ho s h
    · simp; omega
  rw [if_neg h8]
  split
  · exact ⟨fun s h => ho s (List.mem_of_mem_take h), by simp; omega⟩
  · exact ⟨fun s h => ho s (List.mem_of_mem_drop h), by simp; omega⟩
theorem set_drop {l : List ByteArray} {t : ByteArray} (hp : l.Pairwise (fun a b => cmpB a b < 0)) (h : setIn l t = false) : ∀ b ∈ l.drop (setAt l t), cmpB t b < 0 := by
  intro b hb
  obtain ⟨j, hj, hbj⟩ := mem_drop_get hb
  have hge := set_ge ((rising_iff cmpB_tr).2 hp) t j b hbj hj
  rw [lessB_eq] at hge
  simp at hge
  have hne : cmpB b t ≠ 0 := by
    intro e
    have hbt := cmpB_eq e
    subst hbt
    rcases Nat.lt_or_ge (setAt l b) j with hlt | hge'
    · have hlen := lt_of_getElem? hbj
      have ha : l[setAt l b]? = some l[setAt l b] := List.getElem?_eq_getElem (by omega)
      have h1 := set_ge ((rising_iff cmpB_tr).2 hp) b _ _ ha (Nat.le_refl _)
      rw [lessB_eq] at h1
      simp at h1
      have h2 : cmpB l[setAt l b] l[j] < 0 := List.pairwise_iff_getElem.1 hp _ _ (by omega) hlen hlt
      rw [List.getElem?_eq_getElem hlen] at hbj
      have hb' : l[j] = b := Option.some.inj hbj
      rw [hb'] at h2; omega
    · have : j = setAt l b := by omega
      subst this
      unfold setIn at_string at h
      rw [hbj] at h
      simp at h
  rw [cmpB_anti]; omega
theorem set_ok {l : List ByteArray} {c : Cmd} (hp : l.Pairwise (fun a b => cmpB a b < 0)) (ho : ∀ s ∈ l, okText s = true) (hl : l.length ≤ 20) (ht : okText c.text = true) (hc : (setV l c).2.code = 0) :
    (setV l c).1.Pairwise (fun a b => cmpB a b < 0) ∧ (∀ s ∈ (setV l c).1, okText s = true) ∧ (setV l c).1.length ≤ 20 := by
  unfold setV at hc ⊢
  simp only at hc ⊢
  by_cases h4 : c.kind = 11
  · rw [if_pos h4] at hc ⊢
    cases hin : setIn l c.text with
    | true => exact ⟨hp, ho, hl⟩
    | false =>
      rw [hin] at hc
      simp only [Bool.false_eq_true, if_false] at hc ⊢
      by_cases h20 : l.length = 20
      · rw [if_pos h20] at hc; simp [failR] at hc
      · rw [if_neg h20]
        refine ⟨pair_ins hp (fun a ha => ?_) (fun b hb => ?_), ?_, ?_⟩
        · have := take_lt (fun a => lessB a c.text) l a ha
          rw [lessB_eq] at this
          simpa using this
        · exact set_drop hp hin b hb
        · intro p h
          rcases mem_ins h with rfl | h
          · exact ht
          · exact ho p h
        · rw [insAt_length]; omega
  · rw [if_neg h4]
    by_cases h5 : c.kind = 12
    · rw [if_pos h5]
      split
      · exact ⟨hp.sublist (del_sub _ _), fun p h => ho p (mem_del h), Nat.le_trans (delAt_length _ _) hl⟩
      · exact ⟨hp, ho, hl⟩
    · rw [if_neg h5]
      exact ⟨hp, ho, hl⟩
theorem firstI_at {α : Type} (p : α → Bool) : ∀ (l : List α) (i j : Nat), firstI p i l = ((i + j : Nat) : Int) → (h : j < l.length) → p l[j] = true
  | [], _, _, _, h => by simp at h
  | x :: l, i, 0, h, _ => by
    unfold firstI at h
    cases hx : p x with
    | true => simpa using hx
    | false =>
      rw [hx] at h
      simp only [Bool.false_eq_true, if_false] at h
      rcases firstI_lt p l (i + 1) with h1 | ⟨j, h1, _⟩
      · rw [h1] at h; omega
      · rw [h1] at h; omega
  | x :: l, i, j + 1, h, hj => by
    unfold firstI at h
    cases hx : p x with
    | true => rw [hx] at h; simp at h; omega
    | false =>
      rw [hx] at h
      simp only [Bool.false_eq_true, if_false] at h
      have := firstI_at p l (i + 1) j (by rw [h]; congr 1; omega) (by simpa using hj)
      simpa using this
theorem rankCut_none {l : List Sc} {m : ByteArray} (ho : l.Pairwise (fun a b => a.1 ≠ b.1)) : ∀ s ∈ rankCut l m, s.1 ≠ m := by
  unfold rankCut
  split
  · rename_i h; exact rankOf_neg.1 h
  · rename_i h
    rcases rankOf_cases l m with hn | ⟨j, hj, hlt⟩
    · omega
    · rw [hj]
      have hm : (l[j]).1 = m := by
        have := firstI_at (fun s : Sc => decide (s.1 = m)) l 0 j (by simpa [rankOf] using hj) hlt
        simpa using this
      intro s hs e
      unfold delAt at hs
      rw [Int.toNat_natCast] at hs
      rw [List.pairwise_iff_getElem] at ho
      rcases List.mem_append.1 hs with hs | hs
      · rw [List.mem_take_iff_getElem] at hs
        obtain ⟨i, hi, rfl⟩ := hs
        exact ho i j (by omega) hlt (by omega) (by rw [hm]; exact e)
      · obtain ⟨i, hi, hx⟩ := mem_drop_get hs
        have hil := lt_of_getElem? hx
        rw [List.getElem?_eq_getElem hil] at hx
        have hx := Option.some.inj hx
        exact ho j i hlt hil (by omega) (by rw [hm, hx]; exact e.symm)
theorem rankCut_sub (l : List Sc) (m : ByteArray) : (rankCut l m).Sublist l := by
  unfold rankCut
  split
  · exact List.Sublist.refl _
  · exact del_sub _ _
theorem rank_drop {l : List Sc} {m : ByteArray} {n : Int} (hp : l.Pairwise (fun a b => bS a b < 0)) (hn : ∀ s ∈ l, s.1 ≠ m) (hg : ∀ (j : Nat) a, l[j]? = some a → rankAt l m n ≤ j → 0 ≤ bS a (m, n)) : ∀ b ∈ l.drop (rankAt l m n), bS (m, n) b < 0 := by
  intro b hb
  obtain ⟨j, hj, hbj⟩ := mem_drop_get hb
  have h1 := hg j b hbj hj
  have hne := hn b (List.mem_of_getElem? hbj)
  rw [bS_lt]
  have h2 : ¬ bS b (m, n) < 0 := by omega
  rw [bS_lt] at h2
  simp only [not_or, not_and] at h2
  by_cases e : n < b.2
  · exact .inl e
  · have h5 : ¬ b.2 < n := h2.1
    have e2 : b.2 = n := by omega
    refine .inr ⟨e2.symm, ?_⟩
    have h3 : ¬ cmpB b.1 m < 0 := h2.2 e2
    show cmpB m b.1 < 0
    have h4 : cmpB b.1 m ≠ 0 := fun e => hne (cmpB_eq e)
    rw [cmpB_anti]; omega
theorem ranks_ok {l : List Sc} {c : Cmd} (hp : l.Pairwise (fun a b => bS a b < 0)) (h1 : l.Pairwise (fun a b => a.1 ≠ b.1)) (ho : ∀ s ∈ l, okText s.1 = true ∧ okCount s.2 = true) (hl : l.length ≤ 20) (ht : okText c.text = true) (hn : okCount c.n = true) (hc : (ranksV l c).2.code = 0) :
    (ranksV l c).1.Pairwise (fun a b => bS a b < 0) ∧ (ranksV l c).1.Pairwise (fun a b => a.1 ≠ b.1) ∧ (∀ s ∈ (ranksV l c).1, okText s.1 = true ∧ okCount s.2 = true) ∧ (ranksV l c).1.length ≤ 20 := by
  have cs := rankCut_sub l c.text
  have cl := rankCut_len l c.text
  have co : ∀ s ∈ rankCut l c.text, okText s.1 = true ∧ okCount s.2 = true := fun s h => ho s (cs.subset h)
  unfold ranksV at hc ⊢
  simp only at hc ⊢
  by_cases h16 : c.kind = 16
  · rw [if_pos h16]; exact ⟨hp, h1, ho, hl⟩
  rw [if_neg h16] at hc ⊢
  by_cases h15 : c.kind = 15
  · rw [if_pos h15]; exact ⟨hp.sublist cs, h1.sublist cs, co, Nat.le_trans cl hl⟩
  rw [if_neg h15] at hc ⊢
  by_cases hf : rankOf l c.text < 0 ∧ l.length = 20
  · rw [if_pos hf] at hc; simp [failR] at hc
  rw [if_neg hf]
  have hnone := rankCut_none (m := c.text) h1
  refine ⟨pair_ins (hp.sublist cs) (fun a ha => ?_) (rank_drop (hp.sublist cs) hnone (rank_ge ((rising_iff bS_tr).2 hp) c.text c.n)), pair_ins (h1.sublist cs) (fun a ha => hnone a (List.mem_of_mem_take ha)) (fun b hb => (hnone b (List.mem_of_mem_drop hb)).symm), ?_, ?_⟩
  · have := take_lt (fun a : Sc => decide (bS a (c.text, c.n) < 0)) (rankCut l c.text) a ha
    simpa using this
  · intro s h
    rcases mem_ins h with rfl | h
    · exact ⟨ht, hn⟩
    · exact co s h
  · rw [insAt_length]
    unfold rankCut at cl ⊢
    split
    · rename_i h
      have : ¬ l.length = 20 := fun e => hf ⟨h, e⟩
      omega
    · rename_i h
      rcases rankOf_cases l c.text with hn | ⟨j, hj, hlt⟩
      · omega
      · rw [hj, Int.toNat_natCast]; unfold delAt; simp; omega
def Vk (v : Val) : Prop := OkV v ∨ v = zeroV
theorem Vk.small {v : Val} (h : Vk v) : v.Small := by
  rcases h with h | h
  · exact h.small
  · rw [h]; exact ⟨Nat.zero_le _, Nat.zero_le _, Nat.zero_le _⟩
theorem typed_kind {k κ : Int} (h : kindOfC k = κ) (hk : 4 ≤ k) (h2 : k ≤ 16) : (κ = 3 ∧ k ≤ 6) ∨ (κ = 4 ∧ 7 ≤ k ∧ k ≤ 10) ∨ (κ = 5 ∧ 11 ≤ k ∧ k ≤ 13) ∨ (κ = 6 ∧ 14 ≤ k) := by
  unfold kindOfC at h
  repeat' split at h
  all_goals omega
theorem doV_ok {v : Val} {c : Cmd} (h : OkB v) (hc : checkC c = 0) (hk : c.kind ≤ 16) (hf : c.kind = 1 ∨ kindOfC c.kind = v.kind) (h0 : (doV v c).2.code = 0) : OkB (doV v c).1 := by
  obtain ⟨c1, c2, c3, c4, c5⟩ := checkC_facts hc
  unfold doV at h0 ⊢
  by_cases k1 : c.kind = 1
  · rw [if_pos k1]
    exact ⟨⟨(by show (1 : Int) ≤ 1; omega), (by show (1 : Int) ≤ 6; omega)⟩, .inl rfl, .inr rfl, .inr rfl, .inr (.inr rfl), .inr rfl, by simp [Val.els], c3, by simp, by simp, by simp, rfl, .nil, .nil, fun _ => .nil, .nil⟩
  have hf := hf.resolve_left k1
  rw [if_neg k1] at h0 ⊢
  by_cases k2 : c.kind = 2
  · rw [if_pos k2]; exact h
  rw [if_neg k2] at h0 ⊢
  by_cases k3 : c.kind = 3
  · rw [if_pos k3] at h0 ⊢
    have hv : v.kind = 2 := by rw [k3] at hf; exact hf.symm
    split
    · rename_i hcn
      exact ⟨h.kind, h.text, .inl hv, h.pairs, h.items, h.scores, h.els, h.okT, h.okI, h.okP, h.okS, hcn, h.riseP, h.riseS, h.riseI, h.once⟩
    · exact h
  rw [if_neg k3] at h0 ⊢
  rw [if_neg (by omega), if_neg (by omega)] at h0 ⊢
  have hel := h.els
  unfold Val.els at hel
  rcases typed_kind hf (by omega) hk with ⟨e, b1⟩ | ⟨e, b1, b2⟩ | ⟨e, b1, b2⟩ | ⟨e, b1⟩
  · rw [if_pos e] at h0 ⊢
    have ei := (h.items.resolve_left (by omega)).resolve_left (by omega)
    have es := h.scores.resolve_left (by omega)
    obtain ⟨q1, q2, q3⟩ := hash_ok h.riseP h.okP (by omega) (c5 (by omega) b1) c3 h0
    refine ⟨h.kind, h.text, h.count, .inl e, h.items, h.scores, ?_, h.okT, h.okI, q2, h.okS, h.okC, q1, h.riseS, h.riseI, h.once⟩
    simp only [Val.els, ei, es, List.length_nil]; omega
  · rw [if_neg (by omega), if_pos e] at h0 ⊢
    have ep := h.pairs.resolve_left (by omega)
    have es := h.scores.resolve_left (by omega)
    obtain ⟨q1, q2⟩ := list_ok h.okI (by omega) c3 b1 h0
    refine ⟨h.kind, h.text, h.count, h.pairs, .inl e, h.scores, ?_, h.okT, q1, h.okP, h.okS, h.okC, h.riseP, h.riseS, fun x => ?_, h.once⟩
    · simp only [Val.els, ep, es, List.length_nil]; omega
    · simp only at x; omega
  · rw [if_neg (by omega), if_neg (by omega), if_pos e] at h0 ⊢
    have ep := h.pairs.resolve_left (by omega)
    have es := h.scores.resolve_left (by omega)
    obtain ⟨q1, q2, q3⟩ := set_ok (h.riseI e) h.okI (by omega) c3 h0
    refine ⟨h.kind, h.text, h.count, h.pairs, .inr (.inl e), h.scores, ?_, h.okT, q2, h.okP, h.okS, h.okC, h.riseP, h.riseS, fun _ => q1, h.once⟩
    simp only [Val.els, ep, es, List.length_nil]; omega
  · rw [if_neg (by omega), if_neg (by omega), if_neg (by omega)] at h0 ⊢
    have ep := h.pairs.resolve_left (by omega)
    have ei := (h.items.resolve_left (by omega)).resolve_left (by omega)
    obtain ⟨q1, q2, q3, q4⟩ := ranks_ok h.riseS h.once h.okS (by omega) c3 c4 h0
    refine ⟨h.kind, h.text, h.count, h.pairs, h.items, .inl e, ?_, h.okT, h.okI, h.okP, q3, h.okC, h.riseP, q1, h.riseI, q2⟩
    simp only [Val.els, ep, ei, List.length_nil]; omega
end Go.Proofs.YtpdcfljbabpakaaGreatDoor
set_option linter.unusedVariables false
set_option linter.unusedSimpArgs false
namespace Go.Proofs.AE
open Go Go.RowKit
section
variable {P : Program} {W : World}
theorem below_of {ok ok' : Nat → Prop} {μ' : List MB} {hp' : Hp} {w' : World} (h : Step W ok [] [] w' ok' μ' hp') : Below W.heap.size W w' :=
  ⟨h.os, h.tape, h.output, h.size, fun k hk => h.frame k hk not_own_nil⟩
theorem PCall.run {G : Nat → AV} {ok : Nat → Prop} {f : Nat} {args : List AV} {xs : List Value} {b : Bool} (h : PCall P G f args (.one (.v (.lit (.bool b))))) (hok : ∀ b, ok b → b < W.heap.size) (hg : GRel W ok G) (hargs : AVRels W ok [] args xs) :
    Calls P f xs.toArray W fun e W' => e = .returned (.bool b) ∧ Below W.heap.size W W' := by
  refine (h W ok [] xs (hr_nil hok) hg hargs).mono ?_
  rintro e w' ⟨x, r, hp', ok', μ', rfl, hs, hr, rfl, rfl⟩
  have := lit_rel hr
  subst this
  exact ⟨rfl, below_of hs⟩
end
end Go.Proofs.AE
