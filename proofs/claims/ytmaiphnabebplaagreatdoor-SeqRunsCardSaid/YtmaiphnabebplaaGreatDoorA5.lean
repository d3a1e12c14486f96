/- What checking and copying a store answer. -/
import Derived.Test.YtmaiphnabebplaaGreatDoorA7
set_option linter.unusedVariables false
set_option linter.unusedSimpArgs false
set_option maxRecDepth 100000
set_option maxHeartbeats 8000000
namespace Go.Proofs.YtmaiphnabebplaaGreatDoor
open Go Go.RowKit Go.Proofs.AE
variable {G : Nat → AV}
/-- A nil cell of a box becomes an own empty array. -/
theorem weak_thaw {k : Nat} {s : S} (b o e m : Nat) {t : TypeId} {cs : List C} (h1 : s.hp[b]? = some (some (.box t cs))) (h2 : cs[o]? = some .nil) (hm : 0 < m) :
    Weak k s { s with hp := s.hp.set b (some (.box t (cs.set o (.ar s.hp.length)))) ++ [some (.arr e m [])] } :=
  ⟨rfl, fun n w ok μ a hst => ⟨ok, _, hst.step (hr_thaw hst.hr h1 h2 hm), (hr_thaw hst.hr h1 h2 hm).far⟩⟩
/-- One entry behind another one. -/
def tstE (now : Int) (p : Option Ent) (e : Ent) : Bool := !okField e.key || checkV e.val != 0 || (match p with | some p => !decide (cmpB p.key e.key < 0) | none => false) || (e.till != 0 && (decide (e.till ≤ now) || decide (1073741824 < e.till)))
def chkE (now : Int) : Option Ent → List Ent → Int
  | _, [] => 0
  | p, e :: r => if tstE now p e = true then 13 else chkE now (some e) r
theorem chkE_eq (now : Int) : ∀ (l : List Ent) (p : Option Ent), chkE now p l = if l.any (entBad now) = true then 13 else if rising bE ((match p with | some p => [p] | none => []) ++ l) = true then 0 else 13
  | [], p => by cases p <;> rfl
  | e :: r, p => by
    have ih := chkE_eq now r (some e)
    unfold chkE tstE
    rw [ih]
    have hb : entBad now e = (!okField e.key || checkV e.val != 0 || (e.till != 0 && (decide (e.till ≤ now) || decide (1073741824 < e.till)))) := rfl
    cases p with
    | none =>
      simp only [List.any_cons, hb, List.nil_append, List.singleton_append]
      cases (!okField e.key || checkV e.val != 0) <;> cases (e.till != 0 && (decide (e.till ≤ now) || decide (1073741824 < e.till))) <;> simp
    | some p =>
      have hr : rising bE ([p] ++ e :: r) = (decide (bE p e < 0) && rising bE (e :: r)) := rfl
      have hr2 : rising bE (p :: e :: r) = (decide (bE p e < 0) && rising bE (e :: r)) := rfl
      simp only [List.any_cons, hb, hr, List.singleton_append]
      have hd : decide (cmpB p.key e.key < 0) = decide (bE p e < 0) := rfl
      rw [hd]
      cases (!okField e.key || checkV e.val != 0) <;> cases (e.till != 0 && (decide (e.till ≤ now) || decide (1073741824 < e.till))) <;> cases hbe : decide (bE p e < 0) <;> simp [hr2, hbe]
theorem okField_alt (s : ByteArray) : okField s = !(decide ((s.size : Int) < 1) || decide (12 < (s.size : Int))) := by
  unfold okField
  rw [Bool.eq_iff_iff]
  simp <;> omega
def prevE (l : List Ent) (i : Nat) : Option Ent := if i = 0 then none else l[i - 1]?
theorem chkE_drop (now : Int) {l : List Ent} {i : Nat} {e : Ent} (h : l[i]? = some e) : chkE now (prevE l i) (l.drop i) = if tstE now (prevE l i) e = true then 13 else chkE now (prevE l (i + 1)) (l.drop (i + 1)) := by
  have hl := (List.getElem?_eq_some_iff.1 h).1
  have hx := (List.getElem?_eq_some_iff.1 h).2
  rw [List.drop_eq_getElem_cons hl, hx]
  have hp : prevE l (i + 1) = some e := by unfold prevE; simpa using h
  rw [hp]
  rfl
theorem checkS_chk (s : Sto) : checkS s = if s.now < 0 ∨ 1073741824 < s.now ∨ 12 < s.ents.length then 13 else chkE s.now none s.ents := by
  unfold checkS
  rw [chkE_eq]
  rfl
theorem checkS_c (s : Sto) (hs : s.Small) : PCall Tryz.prog G 30 [.agg s.c] (iV (checkS s)) := by
  obtain ⟨now, l⟩ := s
  obtain ⟨s1, s2⟩ := hs
  simp only at s1 s2
  rw [checkS_chk]
  simp only [Sto.c]
  by_cases hb : now < 0 ∨ 1073741824 < now ∨ 12 < l.length
  · rw [if_pos hb]
    refine pcallc mixed Tryz.func30 ac_store_Check ?_
    repeat' (first | (with_reducible first | refine Cn (fun h => ?_) fun h => ?_ | refine And.intro ?_ ?_ | refine wR ?_ | exact wr _ _ | refine wa ?_ | apply awp_join) | (with_reducible refine CallZ.z ?_) | simp -dsimp [go_sem])
    all_goals (exfalso; clear s2; simp at *; omega)
  · rw [if_neg hb]
    have b1 : decide (now < 0) = false := by simp; omega
    have b2 : decide (1073741824 < now) = false := by simp; omega
    have b3 : decide (12 < (l.length : Int)) = false := by simp; omega
    refine pcallc mixed Tryz.func30 ac_store_Check ?_
    repeat' (first | (with_reducible first | refine Cn (fun h => ?_) fun h => ?_ | refine And.intro ?_ ?_ | refine wR ?_ | exact wr _ _ | refine wa ?_ | apply awp_join) | (with_reducible refine CallZ.z ?_) | simp -dsimp [go_sem, b1, b2, b3])
    refine awp_loop (fun i : Nat => ⟨[(1, .one (.ptr 0 0)), (20, .one (.v (.sl (eR l)))), (21, iV l.length), (22, iV i)], G, [some (.box 29 [iC now, .v (.sl (eR l))])]⟩) (fun i => i ≤ l.length ∧ chkE now none l = chkE now (prevE l i) (l.drop i)) (fun i => l.length - i) 0 (weak_auto ?_) ⟨Nat.zero_le _, rfl⟩ ?_
    · simp -dsimp [go_sem]
    · rintro i ⟨hi, hx⟩
      rw [hx]
      by_cases hlt : i < l.length
      · obtain ⟨e, he⟩ : ∃ e, l[i]? = some e := ⟨_, List.getElem?_eq_getElem hlt⟩
        have e4 : IntKind.i64.wrap ((i : Int) + 1) = (i : Int) + 1 := IntWalk.i64_in _ (by omega)
        have q1 : decide (i < l.length) = true := by simpa using hlt
        have hcv := checkV_c (G := G) e.val (s2 e (List.mem_of_getElem? he))
        rw [chkE_drop now he]
        obtain ⟨T, hT⟩ : ∃ T, tstE now (prevE l i) e = T := ⟨_, rfl⟩
        have hT' := hT
        unfold tstE at hT'
        rw [okField_alt] at hT'
        obtain ⟨N, hN⟩ : ∃ N, chkE now (prevE l (i + 1)) (l.drop (i + 1)) = N := ⟨_, rfl⟩
        rw [hT, hN]
        clear hT
        obtain ⟨V, hV⟩ : ∃ V, checkV e.val = V := ⟨_, rfl⟩
        rw [hV] at hcv hT'
        obtain ⟨key, ⟨vk, vt, vn, vp, vi, vs⟩, till⟩ := e
        simp only [Val.c] at hcv
        simp only at hT'
        have hag : i + 1 ≤ l.length ∧ N = chkE now (prevE l (i + 1)) (l.drop (i + 1)) := ⟨hlt, hN.symm⟩
        by_cases h0 : i = 0
        · have q2 : decide (0 < i) = false := by simp; omega
          have hp : prevE l i = none := by unfold prevE; rw [if_pos h0]
          rw [hp] at hT'
          simp only at hT'
          repeat' (first | (with_reducible first | refine Cn (fun h => ?_) fun h => ?_ | refine And.intro ?_ ?_ | refine wR ?_ | exact wr _ _ | refine wa ?_ | apply awp_join | refine q hcv ?_ | refine qd hcv ?_ | refine qz hcv ?_) | (with_reducible refine CallZ.z ?_) | simp -dsimp [go_sem, he, Ent.row, e4, q1, q2])
          all_goals first
            | omega
            | (have hTt : T = true := by (rw [← hT']; simp [*])
               simp [hTt]; done)
            | (have hTf : T = false := by (rw [← hT']; simp [*])
               rw [hTf]
               refine Again.auto (i + 1) ?_ ?_ ?_
               · simp -dsimp [go_sem]
               · exact hag
               · show l.length - (i + 1) < l.length - i; omega)
        · obtain ⟨j, hj⟩ : ∃ j, i = j + 1 := ⟨i - 1, by omega⟩
          have q2 : decide (0 < i) = true := by simp; omega
          obtain ⟨p, hpj⟩ : ∃ p, l[j]? = some p := ⟨_, List.getElem?_eq_getElem (by omega)⟩
          have hp : prevE l i = some p := by unfold prevE; rw [if_neg h0, hj]; simpa using hpj
          rw [hp] at hT'
          have e5 : IntKind.i64.wrap ((i : Int) - 1) = (j : Int) := by rw [IntWalk.i64_in _ (by omega)]; omega
          have e6 : lessB p.key key = decide (cmpB p.key key < 0) := lessB_eq _ _
          obtain ⟨pkey, ⟨wk, wt, wn, wp, wi, ws⟩, ptill⟩ := p
          simp only at hT' e6
          repeat' (first | (with_reducible first | refine Cn (fun h => ?_) fun h => ?_ | refine And.intro ?_ ?_ | refine wR ?_ | exact wr _ _ | refine wa ?_ | apply awp_join | refine q hcv ?_ | refine qd hcv ?_ | refine qz hcv ?_) | (with_reducible refine CallZ.z ?_) | simp -dsimp [go_sem, he, hpj, Ent.row, e4, e5, q1, q2, e6])
          all_goals first
            | omega
            | (have hTt : T = true := by (rw [← hT']; simp [*])
               simp [hTt]; done)
            | (have hTf : T = false := by (rw [← hT']; simp [*])
               rw [hTf]
               refine Again.auto (i + 1) ?_ ?_ ?_
               · simp -dsimp [go_sem]
               · exact hag
               · show l.length - (i + 1) < l.length - i; omega)
      · have hn : l.drop i = [] := List.drop_eq_nil_of_le (by omega)
        have q1 : decide (i < l.length) = false := by simpa using hlt
        rw [hn]
        unfold chkE
        repeat' (first | (with_reducible first | refine Cn (fun h => ?_) fun h => ?_ | refine And.intro ?_ ?_ | refine wR ?_ | exact wr _ _ | refine wa ?_ | apply awp_join) | (with_reducible refine CallZ.z ?_) | simp -dsimp [go_sem, q1])
def accE (l : List Ent) (i : Nat) : List (List V) := eR (l.take i)
theorem accE_zero (l : List Ent) : accE l 0 = [] := rfl
theorem accE_all (l : List Ent) {i : Nat} (h : l.length ≤ i) : accE l i = eR l := by unfold accE; rw [List.take_of_length_le h]
theorem accE_len (l : List Ent) {i : Nat} (h : i ≤ l.length) : (accE l i).length = i := by unfold accE; simp; omega
theorem accE_succ {l : List Ent} {i : Nat} {e : Ent} (h : l[i]? = some e) : accE l (i + 1) = accE l i ++ [e.row] := by
  unfold accE
  rw [List.take_add_one, h, Option.toList_some]
  simp
theorem ownS_C (s : Sto) (hs : s.Small) : PCall Tryz.prog G 37 [.agg s.c] (.agg s.c) := by
  obtain ⟨now, l⟩ := s
  obtain ⟨s1, s2⟩ := hs
  simp only at s1 s2
  have hul := ul_e l
  simp only [Sto.c]
  refine pcallc mixed Tryz.func37 ac_store_own ?_
  repeat' (first | (with_reducible first | refine Cn (fun h => ?_) fun h => ?_ | refine And.intro ?_ ?_ | refine wR ?_ | exact wr _ _ | refine wa ?_ | apply awp_join) | (with_reducible refine CallZ.z ?_) | simp -dsimp [go_sem])
  refine awp_loop (fun i : Nat => ⟨[(2, .one (.ptr 0 0)), (3, .one (.ptr 1 0)), (11, .one (.v (.sl (eR l)))), (12, iV l.length), (13, iV i)], G, [some (.box 29 [iC 0, .nil]), some (.box 29 [iC now, .ar 2]), some (.arr 88 8 (accE l i))]⟩) (fun i => i ≤ l.length) (fun i => l.length - i) 0 (Weak.trans (weak_thaw 2 1 88 8 rfl rfl (by omega)) (weak_auto ?_)) (Nat.zero_le _) ?_
  · simp -dsimp [go_sem, accE_zero]
  · intro i hi
    by_cases hlt : i < l.length
    · obtain ⟨e, he⟩ : ∃ e, l[i]? = some e := ⟨_, List.getElem?_eq_getElem hlt⟩
      have e4 : IntKind.i64.wrap ((i : Int) + 1) = (i : Int) + 1 := IntWalk.i64_in _ (by omega)
      have q1 : decide (i < l.length) = true := by simpa using hlt
      obtain ⟨v1, v2, v3⟩ := s2 e (List.mem_of_getElem? he)
      have hrl := accE_len l hi
      have hsu := accE_succ he
      have hul1 : UL 8 [e.row] := fun r hr => by simp at hr; subst hr; rfl
      obtain ⟨key, ⟨vk, vt, vn, vp, vi, vs⟩, till⟩ := e
      simp only at v1 v2 v3
      have c1 := clone_api_Pair (G := G) (pR vp) (ul_p vp) (by simp; omega)
      have c2 := clone_string (G := G) (strRows vi) (ul_i vi) (by simp; omega)
      have c3 := clone_api_Score (G := G) (sR vs) (ul_s vs) (by simp; omega)
      simp only [Ent.row] at hsu hul1
      repeat' (first | (with_reducible first | refine Cn (fun h => ?_) fun h => ?_ | refine And.intro ?_ ?_ | refine wR ?_ | exact wr _ _ | refine wa ?_ | apply awp_join | refine q c1 ?_ | refine qd c1 ?_ | refine qz c1 ?_ | refine q c2 ?_ | refine qd c2 ?_ | refine qz c2 ?_ | refine q c3 ?_ | refine qd c3 ?_ | refine qz c3 ?_) | (with_reducible refine CallZ.z ?_) | simp -dsimp [go_sem, he, Ent.row, e4, q1, hrl])
      all_goals first
        | omega
        | exact hul1
        | (refine Again.auto (i + 1) ?_ ?_ ?_
           · simp -dsimp [go_sem, hsu]
           · exact hlt
           · show l.length - (i + 1) < l.length - i; omega)
    · have q1 : decide (i < l.length) = false := by simpa using hlt
      have hn := accE_all l (i := i) (by omega)
      rw [hn]
      repeat' (first | (with_reducible first | refine Cn (fun h => ?_) fun h => ?_ | refine And.intro ?_ ?_ | refine wR ?_ | exact wr _ _ | refine wa ?_ | apply awp_join) | (with_reducible refine CallZ.z ?_) | simp -dsimp [go_sem, q1])
theorem ownS_G (s : Sto) (hs : s.Small) : DetCall Tryz.prog G 37 0 [] [.agg s.c] (.agg [iC s.now, .ar 0]) [some (.arr 88 8 (eR s.ents))] := by
  obtain ⟨now, l⟩ := s
  obtain ⟨s1, s2⟩ := hs
  simp only at s1 s2
  have hul := ul_e l
  simp only [Sto.c]
  refine gcallc mixed Tryz.func37 ac_store_own ?_
  repeat' (first | (with_reducible first | refine Cn (fun h => ?_) fun h => ?_ | refine And.intro ?_ ?_ | refine wR ?_ | exact wr _ _ | refine wa ?_ | apply awp_join) | (with_reducible refine CallZ.z ?_) | simp -dsimp [go_sem])
  refine awp_loop (fun i : Nat => ⟨[(2, .one (.ptr 0 0)), (3, .one (.ptr 1 0)), (11, .one (.v (.sl (eR l)))), (12, iV l.length), (13, iV i)], G, [some (.box 29 [iC 0, .nil]), some (.box 29 [iC now, .ar 2]), some (.arr 88 8 (accE l i))]⟩) (fun i => i ≤ l.length) (fun i => l.length - i) 0 (Weak.trans (weak_thaw 2 1 88 8 rfl rfl (by omega)) (weak_auto ?_)) (Nat.zero_le _) ?_
  · simp -dsimp [go_sem, accE_zero]
  · intro i hi
    by_cases hlt : i < l.length
    · obtain ⟨e, he⟩ : ∃ e, l[i]? = some e := ⟨_, List.getElem?_eq_getElem hlt⟩
      have e4 : IntKind.i64.wrap ((i : Int) + 1) = (i : Int) + 1 := IntWalk.i64_in _ (by omega)
      have q1 : decide (i < l.length) = true := by simpa using hlt
      obtain ⟨v1, v2, v3⟩ := s2 e (List.mem_of_getElem? he)
      have hrl := accE_len l hi
      have hsu := accE_succ he
      have hul1 : UL 8 [e.row] := fun r hr => by simp at hr; subst hr; rfl
      obtain ⟨key, ⟨vk, vt, vn, vp, vi, vs⟩, till⟩ := e
      simp only at v1 v2 v3
      have c1 := clone_api_Pair (G := G) (pR vp) (ul_p vp) (by simp; omega)
      have c2 := clone_string (G := G) (strRows vi) (ul_i vi) (by simp; omega)
      have c3 := clone_api_Score (G := G) (sR vs) (ul_s vs) (by simp; omega)
      simp only [Ent.row] at hsu hul1
      repeat' (first | (with_reducible first | refine Cn (fun h => ?_) fun h => ?_ | refine And.intro ?_ ?_ | refine wR ?_ | exact wr _ _ | refine wa ?_ | apply awp_join | refine q c1 ?_ | refine qd c1 ?_ | refine qz c1 ?_ | refine q c2 ?_ | refine qd c2 ?_ | refine qz c2 ?_ | refine q c3 ?_ | refine qd c3 ?_ | refine qz c3 ?_) | (with_reducible refine CallZ.z ?_) | simp -dsimp [go_sem, he, Ent.row, e4, q1, hrl])
      all_goals first
        | omega
        | exact hul1
        | (refine Again.auto (i + 1) ?_ ?_ ?_
           · simp -dsimp [go_sem, hsu]
           · exact hlt
           · show l.length - (i + 1) < l.length - i; omega)
    · have q1 : decide (i < l.length) = false := by simpa using hlt
      have hn := accE_all l (i := i) (by omega)
      rw [hn]
      repeat' (first | (with_reducible first | refine Cn (fun h => ?_) fun h => ?_ | refine And.intro ?_ ?_ | refine wR ?_ | exact wr _ _ | refine wa ?_ | apply awp_join) | (with_reducible refine CallZ.z ?_) | simp -dsimp [go_sem, q1])
abbrev bC' (b : Bool) : C := .v (.lit (.bool b))
theorem byKey_c (e : Ent) (k : ByteArray) : PCall Tryz.prog G 73 [.agg e.c, sV k] (iV (cmpB e.key k)) := by
  unfold Ent.c
  refine pcallc mixed Tryz.func73 ac_store_keyed_find_1 ?_
  repeat' (first | (with_reducible first | refine Cn (fun h => ?_) fun h => ?_ | refine And.intro ?_ ?_ | refine wR ?_ | exact wr _ _ | refine wa ?_ | apply awp_join | refine q (stringsCompare_c _ _) ?_ | refine qd (stringsCompare_c _ _) ?_ | refine qz (stringsCompare_c _ _) ?_) | (with_reducible refine CallZ.z ?_) | simp -dsimp [go_sem])
theorem bsearchE (l : List Ent) (key : ByteArray) (hl : l.length ≤ 1000000) (hr : Rise l) :
    PCall Tryz.prog G 72 [.one (.v (.sl (eR l))), sV key, .fn 73 [] []] (.tup [iV (findE l key), bV (inE l key)]) := by
  have he := en73
  obtain ⟨i, hi0⟩ : ∃ i, findE l key = i := ⟨_, rfl⟩
  have hi := findE_le l key
  have h1 : ∀ (j : Nat) a, l[j]? = some a → j < i → cmpB a.key key < 0 := fun j a hj hlt => by
    have := plc_lt (fun e : Ent => decide (cmpB e.key key < 0)) l j a hj (by rw [← hi0] at hlt; exact hlt)
    simpa using this
  have h2 : ∀ (j : Nat) a, l[j]? = some a → i ≤ j → 0 ≤ cmpB a.key key := fun j a hj hle => findE_ge hr j a hj (by rw [hi0]; exact hle)
  unfold inE
  rw [hi0] at hi ⊢
  clear hi0
  refine pcallc mixed Tryz.func72 ac_slices_BinarySearchFunc_api_Entry_string ?_
  repeat' (first | (with_reducible first | refine Cn (fun h => ?_) fun h => ?_ | refine And.intro ?_ ?_ | refine wR ?_ | exact wr _ _ | refine wa ?_ | apply awp_join) | (with_reducible refine CallZ.z ?_) | simp -dsimp [go_sem])
  refine awp_loop (fun q : Nat × Nat => ⟨[(0, .one (.v (.sl (eR l)))), (1, sV key), (2, .fn 73 [] []), (8, iV l.length), (9, iV q.1), (10, iV q.2)], G, []⟩) (fun q => q.1 ≤ i ∧ i ≤ q.2 ∧ q.2 ≤ l.length) (fun q => q.2 - q.1) (0, l.length) (weak_auto ?_) ⟨Nat.zero_le _, hi, Nat.le_refl _⟩ ?_
  · simp -dsimp [go_sem]
  · rintro ⟨lo, up⟩ ⟨q1, q2, q3⟩
    simp only at q1 q2 q3
    have w0 : IntKind.i64.wrap ((lo : Int) + up) = (lo : Int) + up := IntWalk.i64_in _ (by omega)
    simp -dsimp [go_sem]
    refine Cnd.intro (fun h => ?_) (fun h => ?_)
    · have hlt : lo < up := by simpa using h
      obtain ⟨m, hm, m1, m2⟩ : ∃ m : Nat, ((lo : Int) + up).fdiv 2 = m ∧ lo ≤ m ∧ m < up := by
        refine ⟨(lo + up) / 2, ?_, by omega, by omega⟩
        rw [Int.fdiv_eq_ediv_of_nonneg _ (by omega)]; omega
      have w1 : IntKind.u64.wrap ((lo : Int) + up) = (lo : Int) + up := IntWalk.u64_in _ (by omega)
      have w2 : IntKind.i64.wrap (m : Int) = m := IntWalk.i64_in _ (by omega)
      have w3 : IntKind.i64.wrap ((m : Int) + 1) = (m : Int) + 1 := IntWalk.i64_in _ (by omega)
      obtain ⟨a, ha⟩ : ∃ a, l[m]? = some a := ⟨_, List.getElem?_eq_getElem (by omega)⟩
      have hc := byKey_c (G := G) a key
      have k1 := h1 m a ha
      have k2 := h2 m a ha
      obtain ⟨x, hx⟩ : ∃ x, cmpB a.key key = x := ⟨_, rfl⟩
      rw [hx] at hc k1 k2
      simp only [Ent.c] at hc
      repeat' (first | (with_reducible first | refine Cn (fun h => ?_) fun h => ?_ | refine And.intro ?_ ?_ | refine wR ?_ | exact wr _ _ | refine wa ?_ | apply awp_join | refine q hc ?_ | refine qd hc ?_ | refine qz hc ?_) | (with_reducible refine CallZ.z ?_) | simp -dsimp [go_sem, w0, hm, w1, w2, w3, ha, Ent.row, he])
      all_goals first
        | (have hh : x < 0 := by simpa using h
           refine Again.auto (m + 1, up) ?_ ⟨?_, ?_, ?_⟩ ?_
           · simp -dsimp [go_sem]
           · show m + 1 ≤ i; omega
           · show i ≤ up; omega
           · show up ≤ l.length; omega
           · show up - (m + 1) < up - lo; omega)
        | (have hh : ¬ x < 0 := by simpa using h
           refine Again.auto (lo, m) ?_ ⟨?_, ?_, ?_⟩ ?_
           · simp -dsimp [go_sem]
           · show lo ≤ i; omega
           · show i ≤ m; omega
           · show m ≤ l.length; omega
           · show m - lo < up - lo; omega)
        | omega
    · have hge : lo = i := by simp at h; omega
      subst hge
      cases ha : l[lo]? with
      | none =>
        have hn : l.length ≤ lo := by simpa using ha
        have hlt : decide (lo < l.length) = false := by simp; omega
        repeat' (first | (with_reducible first | refine Cn (fun h => ?_) fun h => ?_ | refine And.intro ?_ ?_ | refine wR ?_ | exact wr _ _ | refine wa ?_ | apply awp_join) | (with_reducible refine CallZ.z ?_) | simp -dsimp [go_sem, hlt])
      | some a =>
        have hn : lo < l.length := lt_of_getElem? ha
        have hlt : decide (lo < l.length) = true := by simp; omega
        have hc := byKey_c (G := G) a key
        simp only [Ent.c] at hc
        repeat' (first | (with_reducible first | refine Cn (fun h => ?_) fun h => ?_ | refine And.intro ?_ ?_ | refine wR ?_ | exact wr _ _ | refine wa ?_ | apply awp_join | refine q hc ?_ | refine qd hc ?_ | refine qz hc ?_) | (with_reducible refine CallZ.z ?_) | simp -dsimp [go_sem, hlt, ha, Ent.row, he])
abbrev kHp (now : Int) (l : List (List V)) (at' : Int) (th : Bool) : Hp := [some (.box 81 [iC now, .ar 1, iC at', bC' th]), some (.arr 88 8 l)]
theorem find_c (now a0 : Int) (t0 : Bool) (l : List Ent) (key : ByteArray) (hl : l.length ≤ 1000000) (hr : Rise l) :
    DetCall Tryz.prog G 53 2 (kHp now (eR l) a0 t0) [.one (.ptr 0 0), sV key] (.tup []) (kHp now (eR l) (findE l key) (inE l key)) := by
  have hf := bsearchE (G := G) l key hl hr
  refine gcallc mixed Tryz.func53 ac_store_keyed_find ?_
  repeat' (first | (with_reducible first | refine Cn (fun h => ?_) fun h => ?_ | refine And.intro ?_ ?_ | refine wR ?_ | exact wr _ _ | refine wa ?_ | apply awp_join) | ((with_reducible refine CallZ.b ?_); simp -dsimp [go_sem]; (with_reducible refine PCall.bn (hf) (by with_unfolding_all rfl) (by with_unfolding_all rfl) (by with_unfolding_all rfl) (by with_unfolding_all rfl) ?_)) | (with_reducible refine CallZ.z ?_) | simp -dsimp [go_sem])
theorem remove_c (now : Int) (i : Nat) (th : Bool) (l : List Ent) (hi : i < l.length) (hl : l.length ≤ 1000000) :
    DetCall Tryz.prog G 54 1 (kHp now (eR l) i th) [.one (.ptr 0 0)] (.tup []) (kHp now (eR (delAt l i)) i th) := by
  have hd := delete_api_Entry (G := G) (eR l) i (by simpa using hi) (by simpa using hl)
  rw [map_del] at hd
  have w3 : IntKind.i64.wrap ((i : Int) + 1) = (i : Int) + 1 := IntWalk.i64_in _ (by omega)
  refine gcallc mixed Tryz.func54 ac_store_keyed_remove ?_
  repeat' (first | (with_reducible first | refine Cn (fun h => ?_) fun h => ?_ | refine And.intro ?_ ?_ | refine wR ?_ | exact wr _ _ | refine wa ?_ | apply awp_join | refine qg hd ?_ | refine qgd hd ?_) | (with_reducible refine CallZ.z ?_) | simp -dsimp [go_sem, w3])
/-- The cells of a value, in a row. -/
theorem set_c (now : Int) (l : List Ent) (c : Cmd) (v : Val) (hl : l.length ≤ 1000) :
    DetCall Tryz.prog G 57 1 (kHp now (eR l) (findE l c.key) (inE l c.key)) [.one (.ptr 0 0), .agg c.c, .agg v.c] (.tup []) (kHp now (eR (setE l c v)) (findE l c.key) (inE l c.key)) := by
  have hle := findE_le l c.key
  unfold setE
  cases hin : inE l c.key with
  | true =>
    obtain ⟨e, he, hk⟩ := inE_some hin
    have hlt := lt_of_getElem? he
    rw [if_pos rfl, he]
    generalize findE l c.key = i at *
    obtain ⟨ck, ckey, cf, ct, cn⟩ := c
    obtain ⟨vk, vt, vn, vp, vi, vs⟩ := v
    obtain ⟨key, ⟨wk, wt, wn, wp, wi, ws⟩, till⟩ := e
    have hgs : ∀ X, ((eR l).set i X)[i]? = some X := fun X => by rw [List.getElem?_set_self (by simpa using hlt)]
    have hm : ∀ y : Ent, eR (l.set i y) = (eR l).set i y.row := fun y => by simp
    simp only [Cmd.c, Val.c, hm, Ent.row]
    by_cases h1 : ck = 1
    · have q1 : (ck == 1) = true := by simpa using h1
      rw [if_pos h1]
      refine gcallc mixed Tryz.func57 ac_store_keyed_set ?_
      repeat' (first | (with_reducible first | refine Cn (fun h => ?_) fun h => ?_ | refine And.intro ?_ ?_ | refine wR ?_ | exact wr _ _ | refine wa ?_ | apply awp_join) | (with_reducible refine CallZ.z ?_) | simp -dsimp [go_sem, he, Ent.row, q1, hgs])
      all_goals omega
    · have q1 : (ck == 1) = false := by simpa using h1
      rw [if_neg h1]
      refine gcallc mixed Tryz.func57 ac_store_keyed_set ?_
      repeat' (first | (with_reducible first | refine Cn (fun h => ?_) fun h => ?_ | refine And.intro ?_ ?_ | refine wR ?_ | exact wr _ _ | refine wa ?_ | apply awp_join) | (with_reducible refine CallZ.z ?_) | simp -dsimp [go_sem, he, Ent.row, q1, hgs])
      all_goals omega
  | false =>
    simp only [Bool.false_eq_true, if_false]
    generalize findE l c.key = i at *
    obtain ⟨ck, ckey, cf, ct, cn⟩ := c
    obtain ⟨vk, vt, vn, vp, vi, vs⟩ := v
    have hd := insert_api_Entry (G := G) (eR l) (Ent.row ⟨ckey, zeroV, 0⟩) i rfl (by simpa using hle) (by simpa using (by omega : l.length ≤ 1000000))
    rw [map_ins] at hd
    have hg : (insAt l i (⟨ckey, zeroV, 0⟩ : Ent))[i]? = some ⟨ckey, zeroV, 0⟩ := by
      unfold insAt
      rw [List.getElem?_append_right (by simp; omega)]
      simp
      rw [Nat.min_eq_left hle]; simp
    have hs : (insAt l i (⟨ckey, zeroV, 0⟩ : Ent)).set i ⟨ckey, ⟨vk, vt, vn, vp, vi, vs⟩, 0⟩ = insAt l i ⟨ckey, ⟨vk, vt, vn, vp, vi, vs⟩, 0⟩ := by
      unfold insAt
      rw [List.set_append_right _ _ (by simp; omega)]
      simp
      rw [Nat.min_eq_left hle]; simp
    have hil : (insAt l i (⟨ckey, zeroV, 0⟩ : Ent)).length = l.length + 1 := insAt_length l i _
    have hgs : ∀ X, ((eR (insAt l i (⟨ckey, zeroV, 0⟩ : Ent))).set i X)[i]? = some X := fun X => by rw [List.getElem?_set_self (by rw [List.length_map, insAt_length]; omega)]
    rw [← hs]
    have hm : ∀ (m : List Ent) (y : Ent), eR (m.set i y) = (eR m).set i y.row := fun m y => by simp
    rw [hm]
    generalize insAt l i (⟨ckey, zeroV, 0⟩ : Ent) = L at *
    simp only [Cmd.c, Val.c, Ent.row, zeroV] at hd ⊢
    by_cases h1 : ck = 1
    · have q1 : (ck == 1) = true := by simpa using h1
      refine gcallc mixed Tryz.func57 ac_store_keyed_set ?_
      repeat' (first | (with_reducible first | refine Cn (fun h => ?_) fun h => ?_ | refine And.intro ?_ ?_ | refine wR ?_ | exact wr _ _ | refine wa ?_ | apply awp_join | refine qg hd ?_ | refine qgd hd ?_) | (with_reducible refine CallZ.z ?_) | simp -dsimp [go_sem, hg, Ent.row, q1, hgs])
      all_goals omega
    · have q1 : (ck == 1) = false := by simpa using h1
      refine gcallc mixed Tryz.func57 ac_store_keyed_set ?_
      repeat' (first | (with_reducible first | refine Cn (fun h => ?_) fun h => ?_ | refine And.intro ?_ ?_ | refine wR ?_ | exact wr _ _ | refine wa ?_ | apply awp_join | refine qg hd ?_ | refine qgd hd ?_) | (with_reducible refine CallZ.z ?_) | simp -dsimp [go_sem, hg, Ent.row, q1, hgs])
      all_goals omega
theorem timed_c (now : Int) (l : List Ent) (c : Cmd) (hl : l.length ≤ 1000) (hn0 : 0 ≤ now) (hn1 : now ≤ 1073741824) (ha : ∀ e ∈ l, OkE now e) (hc : okCount c.n = true) :
    DetCall Tryz.prog G 55 1 (kHp now (eR l) (findE l c.key) (inE l c.key)) [.one (.ptr 0 0), .agg c.c] (.agg (timedE now l c).2.c) (kHp now (eR (timedE now l c).1) (findE l c.key) (inE l c.key)) := by
  have hcn : -1099511627776 ≤ c.n ∧ c.n ≤ 1099511627776 := by unfold okCount at hc; simpa using hc
  unfold timedE
  cases hin : inE l c.key with
  | false =>
    simp only [Bool.false_eq_true, if_false]
    obtain ⟨ck, ckey, cf, ct, cn⟩ := c
    simp only [Cmd.c, Rep.c, failR, List.map_nil]
    refine gcallc mixed Tryz.func55 ac_store_keyed_timed ?_
    repeat' (first | (with_reducible first | refine Cn (fun h => ?_) fun h => ?_ | refine And.intro ?_ ?_ | refine wR ?_ | exact wr _ _ | refine wa ?_ | apply awp_join) | (with_reducible refine CallZ.z ?_) | simp -dsimp [go_sem])
  | true =>
    obtain ⟨e, he, hk⟩ := inE_some hin
    have hlt := lt_of_getElem? he
    have hoe := (ha e (List.mem_of_getElem? he)).till
    rw [if_pos rfl, he]
    simp only
    generalize findE l c.key = i at *
    obtain ⟨ck, ckey, cf, ct, cn⟩ := c
    obtain ⟨key, ⟨wk, wt, wn, wp, wi, ws⟩, till⟩ := e
    simp only at hcn hoe ⊢
    have w1 : IntKind.i64.wrap (till - now) = till - now := IntWalk.i64_in _ (by omega)
    have w2 : IntKind.i64.wrap (1073741824 - now) = 1073741824 - now := IntWalk.i64_in _ (by omega)
    have hm : ∀ y : Ent, eR (l.set i y) = (eR l).set i y.row := fun y => by simp
    by_cases h1 : ck = 21
    · have q1 : (ck == 21) = true := by simpa using h1
      rw [if_pos h1]
      simp only [Cmd.c, Rep.c, toldR, List.map_nil]
      refine gcallc mixed Tryz.func55 ac_store_keyed_timed ?_
      repeat' (first | (with_reducible first | refine Cn (fun h => ?_) fun h => ?_ | refine And.intro ?_ ?_ | refine wR ?_ | exact wr _ _ | refine wa ?_ | apply awp_join) | (with_reducible refine CallZ.z ?_) | simp -dsimp [go_sem, he, Ent.row, q1, w1])
      all_goals first | omega | trace_state
    · have q1 : (ck == 21) = false := by simpa using h1
      rw [if_neg h1]
      by_cases h2 : cn < 1 ∨ 1073741824 - now < cn
      · rw [if_pos h2]
        simp only [Cmd.c, Rep.c, failR, List.map_nil]
        refine gcallc mixed Tryz.func55 ac_store_keyed_timed ?_
        repeat' (first | (with_reducible first | refine Cn (fun h => ?_) fun h => ?_ | refine And.intro ?_ ?_ | refine wR ?_ | exact wr _ _ | refine wa ?_ | apply awp_join) | (with_reducible refine CallZ.z ?_) | simp -dsimp [go_sem, he, Ent.row, q1, w2])
        all_goals first | omega | (exfalso; simp at *; omega) | trace_state
      · rw [if_neg h2]
        have w3 : IntKind.i64.wrap (now + cn) = now + cn := IntWalk.i64_in _ (by omega)
        have q2 : decide (cn < 1) = false := by simp; omega
        have q3 : decide (1073741824 - now < cn) = false := by simp; omega
        simp only [Cmd.c, Rep.c, toldR, List.map_nil, hm, Ent.row]
        refine gcallc mixed Tryz.func55 ac_store_keyed_timed ?_
        repeat' (first | (with_reducible first | refine Cn (fun h => ?_) fun h => ?_ | refine And.intro ?_ ?_ | refine wR ?_ | exact wr _ _ | refine wa ?_ | apply awp_join) | (with_reducible refine CallZ.z ?_) | simp -dsimp [go_sem, he, Ent.row, q1, q2, q3, w2, w3])
        all_goals first | omega | trace_state
/-! ### what has run out -/
abbrev dHp (now : Int) (c : Nat) (rows : List (List V)) : Hp := [some (.box 78 [.ptr 1 0]), some (.box 81 [iC now, .ar 2, iC 0, bC' false]), some (.arj 88 8 c rows)]
theorem goneE_c (now : Int) (c : Nat) (rows : List (List V)) (e : Ent) : DetCall Tryz.prog G 39 3 (dHp now c rows) [.agg e.c, .one (.ptr 0 0)] (bV (goneE now e)) (dHp now c rows) := by
  obtain ⟨key, ⟨wk, wt, wn, wp, wi, ws⟩, till⟩ := e
  unfold goneE
  simp only [Ent.c]
  refine gcallc mixed Tryz.func39 ac_store_Apply_1 ?_
  repeat' (first | (with_reducible first | refine Cn (fun h => ?_) fun h => ?_ | refine And.intro ?_ ?_ | refine wR ?_ | exact wr _ _ | refine wa ?_ | apply awp_join) | (with_reducible refine CallZ.z ?_) | simp -dsimp [go_sem])
  all_goals (simp_all; done)
theorem indexE_c (now : Int) (c : Nat) (l : List Ent) (hl : l.length ≤ 1000000) : DetCall Tryz.prog G 52 3 (dHp now c (eR l)) [.one (.sub 2 8 0 l.length c), .fn 39 [] [.ptr 0 0]] (iV (firstI (goneE now) 0 l)) (dHp now c (eR l)) := by
  have hen := en39
  refine gcallc mixed Tryz.func52 ac_slices_IndexFunc_api_Entry ?_
  repeat' (first | (with_reducible first | refine Cn (fun h => ?_) fun h => ?_ | refine And.intro ?_ ?_ | refine wR ?_ | exact wr _ _ | refine wa ?_ | apply awp_join) | (with_reducible refine CallZ.z ?_) | simp -dsimp [go_sem])
  refine awp_loop (fun i : Nat => ⟨[(0, .one (.sub 2 8 0 l.length c)), (1, .fn 39 [] [.ptr 0 0]), (7, iV l.length), (8, iV i)], G, dHp now c (eR l)⟩) (fun i => i ≤ l.length ∧ firstI (goneE now) 0 l = firstI (goneE now) i (l.drop i)) (fun i => l.length - i) 0 (weak_auto ?_) ⟨Nat.zero_le _, rfl⟩ ?_
  · simp -dsimp [go_sem]
  · rintro i ⟨hi, hx⟩
    rw [hx]
    by_cases hlt : i < l.length
    · obtain ⟨e, he⟩ : ∃ e, l[i]? = some e := ⟨_, List.getElem?_eq_getElem hlt⟩
      have hxe := (List.getElem?_eq_some_iff.1 he).2
      have hg := goneE_c (G := G) now c (eR l) e
      rw [firstI_drop _ l hlt, hxe]
      obtain ⟨b, hb⟩ : ∃ b, goneE now e = b := ⟨_, rfl⟩
      rw [hb] at hg ⊢
      have e4 : IntKind.i64.wrap ((i : Int) + 1) = (i : Int) + 1 := IntWalk.i64_in _ (by omega)
      have q1 : decide (i < l.length) = true := by simpa using hlt
      obtain ⟨key, ⟨wk, wt, wn, wp, wi, ws⟩, till⟩ := e
      simp only [Ent.c] at hg
      cases b with
      | true =>
        simp only [if_true]
        repeat' (first | (with_reducible first | refine Cn (fun h => ?_) fun h => ?_ | refine And.intro ?_ ?_ | refine wR ?_ | exact wr _ _ | refine wa ?_ | apply awp_join | refine qg hg ?_ | refine qgd hg ?_) | (with_reducible refine CallZ.z ?_) | simp -dsimp [go_sem, he, Ent.row, e4, q1, hen])
        all_goals first | omega | trace_state
      | false =>
        simp only [Bool.false_eq_true, if_false]
        repeat' (first | (with_reducible first | refine Cn (fun h => ?_) fun h => ?_ | refine And.intro ?_ ?_ | refine wR ?_ | exact wr _ _ | refine wa ?_ | apply awp_join | refine qg hg ?_ | refine qgd hg ?_) | (with_reducible refine CallZ.z ?_) | simp -dsimp [go_sem, he, Ent.row, e4, q1, hen])
        all_goals first
          | omega
          | (refine Again.auto (i + 1) ?_ ⟨hlt, rfl⟩ ?_
             · simp -dsimp [go_sem]
             · show l.length - (i + 1) < l.length - i; omega)
          | trace_state
    · have q1 : decide (i < l.length) = false := by simpa using hlt
      have hn : l.drop i = [] := List.drop_eq_nil_of_le (by omega)
      rw [hn]
      unfold firstI
      repeat' (first | (with_reducible first | refine Cn (fun h => ?_) fun h => ?_ | refine And.intro ?_ ?_ | refine wR ?_ | exact wr _ _ | refine wa ?_ | apply awp_join) | (with_reducible refine CallZ.z ?_) | simp -dsimp [go_sem, q1])
end Go.Proofs.YtmaiphnabebplaaGreatDoor
