/- What Check answers of a value. -/
import Derived.Test.YtcfpphadlgbfdaaJ2
set_option linter.unusedVariables false
set_option linter.unusedSimpArgs false
set_option maxRecDepth 100000
set_option maxHeartbeats 8000000
namespace Go.Proofs.Ytcfpphadlgbfdaa
open Go Go.RowKit Go.Proofs.AE
variable {G : Nat → AV}
abbrev bF (a b : Pr) : Int := cmpB a.1 b.1
def bS (a b : Sc) : Int := if cmpI a.2 b.2 = 0 then cmpB a.1 b.1 else cmpI a.2 b.2
theorem byField_c (a b : Pr) : PCall Try.prog G 31 [arg_api_Pair a, arg_api_Pair b] (iV (bF a b)) := by
  refine pcallc mixed Try.func31 ac_value_byField ?_
  repeat' (first | (with_reducible first | refine Cn (fun h => ?_) fun h => ?_ | refine And.intro ?_ ?_ | refine wR ?_ | exact wr _ _ | refine wa ?_ | apply awp_join | refine q (stringsCompare_c _ _) ?_ | refine qd (stringsCompare_c _ _) ?_ | refine qz (stringsCompare_c _ _) ?_) | (with_reducible refine CallZ.z ?_) | simp -dsimp [go_sem])
theorem or2_c (a b : Int) : PCall Try.prog G 49 [.one (.v (.sl [[V.lit (.int .i64 a)], [V.lit (.int .i64 b)]]))] (iV (if a = 0 then b else a)) := by
  refine pcallc mixed Try.func49 ac_cmp_Or_int ?_
  simp -dsimp [go_sem]
  refine awp_loop (fun i : Nat => ⟨[(3, iV 0), (6, .one (.v (.sl [[V.lit (.int .i64 a)], [V.lit (.int .i64 b)]]))), (7, iV 2), (8, iV i)], G, []⟩) (fun i => i ≤ 2 ∧ (0 < i → a = 0) ∧ (1 < i → b = 0)) (fun i => 2 - i) 0 (weak_auto ?_) ⟨by omega, by omega, by omega⟩ ?_
  · simp -dsimp [go_sem]
  · rintro i ⟨h1, h2, h3⟩
    have hi : i = 0 ∨ i = 1 ∨ i = 2 := by omega
    rcases hi with rfl | rfl | rfl
    · by_cases h0 : a = 0
      · subst h0
        simp -dsimp [go_sem]
        refine Again.auto 1 ?_ (by simp) (by omega)
        rw [IntWalk.i64_in _ (by omega)]
        simp -dsimp [go_sem]
      · have h0' : (a != 0) = true := by simpa using h0
        simp -dsimp [go_sem, h0, h0']
    · have h0 := h2 (by omega)
      subst h0
      by_cases h0 : b = 0
      · subst h0
        simp -dsimp [go_sem]
        refine Again.auto 2 ?_ (by simp) (by omega)
        rw [IntWalk.i64_in _ (by omega)]
        simp -dsimp [go_sem]
      · have h0' : (b != 0) = true := by simpa using h0
        simp -dsimp [go_sem, h0, h0']
    · have h0 := h2 (by omega)
      have h0' := h3 (by omega)
      subst h0; subst h0'
      simp -dsimp [go_sem]
theorem byScore_c (a b : Sc) : PCall Try.prog G 33 [arg_api_Score a, arg_api_Score b] (iV (bS a b)) := by
  refine pcallc mixed Try.func33 ac_value_byScore ?_
  unfold bS
  repeat' (first | (with_reducible first | refine Cn (fun h => ?_) fun h => ?_ | refine And.intro ?_ ?_ | refine wR ?_ | exact wr _ _ | refine wa ?_ | apply awp_join | refine q (cmpInt_c _ _) ?_ | refine qd (cmpInt_c _ _) ?_ | refine qz (cmpInt_c _ _) ?_ | refine q (stringsCompare_c _ _) ?_ | refine qd (stringsCompare_c _ _) ?_ | refine qz (stringsCompare_c _ _) ?_ | refine q (or2_c _ _) ?_ | refine qd (or2_c _ _) ?_ | refine qz (or2_c _ _) ?_) | (with_reducible refine CallZ.z ?_) | simp -dsimp [go_sem])
/-! ### the place of a member -/
def rankOf (l : List Sc) (m : ByteArray) : Int := firstI (fun s => decide (s.1 = m)) 0 l
theorem rankFn_c (m : ByteArray) (s : Sc) : DetCall Try.prog G 52 1 [some (.box 9 [sC m])] [arg_api_Score s, .one (.ptr 0 0)] (bV (decide (s.1 = m))) [some (.box 9 [sC m])] := by
  refine gcallc mixed Try.func52 ac_value_rank_1 ?_
  repeat' (first | (with_reducible first | refine Cn (fun h => ?_) fun h => ?_ | refine And.intro ?_ ?_ | refine wR ?_ | exact wr _ _ | refine wa ?_ | apply awp_join) | (with_reducible refine CallZ.z ?_) | simp -dsimp [go_sem])
theorem indexRank_c (m : ByteArray) (l : List Sc) (hl : (l.length : Int) ≤ 9223372036854775807) : DetCall Try.prog G 48 1 [some (.box 9 [sC m])] [.one (.v (.sl (l.map row_api_Score))), .fn 52 [] [.ptr 0 0]] (iV (rankOf l m)) [some (.box 9 [sC m])] := by
  unfold rankOf
  generalize hp : (fun s : Sc => decide (s.1 = m)) = p
  have hpp : ∀ s : Sc, decide (s.1 = m) = p s := fun s => by rw [← hp]
  refine gcallc mixed Try.func48 ac_slices_IndexFunc_api_Score ?_
  simp -dsimp [go_sem]
  refine awp_loop (fun i : Nat => ⟨[(0, .one (.v (.sl (l.map row_api_Score)))), (1, .fn 52 [] [.ptr 0 0]), (7, iV l.length), (8, iV i)], G, [some (.box 9 [sC m])]⟩) (fun i => i ≤ l.length ∧ firstI p 0 l = firstI p i (l.drop i)) (fun i => l.length - i) 0 (weak_auto ?_) ⟨Nat.zero_le _, rfl⟩ ?_
  · simp -dsimp [go_sem]
  · rintro i ⟨hi, hx⟩
    rw [hx]
    simp -dsimp [go_sem]
    refine Cnd.intro (fun h => ?_) (fun h => ?_)
    · have hlt : i < l.length := by simpa using h
      obtain ⟨a, ha⟩ : ∃ a, l[i] = a := ⟨_, rfl⟩
      have hgi : l[i]? = some a := by rw [List.getElem?_eq_getElem (by omega), ha]
      have hc := rankFn_c (G := G) m a
      rw [hpp] at hc
      rw [firstI_drop p l hlt, ha]
      have w1 : IntKind.i64.wrap ((i : Int) + 1) = (i : Int) + 1 := IntWalk.i64_in _ (by omega)
      repeat' (first | (with_reducible first | refine Cn (fun h => ?_) fun h => ?_ | refine And.intro ?_ ?_ | refine wR ?_ | exact wr _ _ | refine wa ?_ | apply awp_join | refine qg hc ?_ | refine qgd hc ?_) | (with_reducible refine CallZ.z ?_) | simp -dsimp [go_sem, hgi, w1, en52])
      all_goals first
        | (with_reducible refine Again.auto (i + 1) ?_ ?_ ?_)
        | (simp_all; done)
        | skip
      all_goals first
        | (simp -dsimp [go_sem]; done)
        | (refine ⟨hlt, ?_⟩; simp_all; done)
        | (show l.length - (i + 1) < l.length - i; omega)
    · have hge : ¬ i < l.length := by simpa using h
      have : i = l.length := by omega
      simp -dsimp [go_sem, firstI, this]
theorem rank_c (m : ByteArray) (l : List Sc) (hl : (l.length : Int) ≤ 9223372036854775807) : PCall Try.prog G 36 [.one (.v (.sl (l.map row_api_Score))), sV m] (iV (rankOf l m)) := by
  refine pcallc mixed Try.func36 ac_value_rank ?_
  repeat' (first | (with_reducible first | refine Cn (fun h => ?_) fun h => ?_ | refine And.intro ?_ ?_ | refine wR ?_ | exact wr _ _ | refine wa ?_ | apply awp_join | refine qg (indexRank_c m l hl) ?_ | refine qgd (indexRank_c m l hl) ?_) | (with_reducible refine CallZ.z ?_) | simp -dsimp [go_sem])
/-! ### Check -/
structure Val where
  kind : Int
  text : ByteArray
  count : Int
  pairs : List Pr
  items : List ByteArray
  scores : List Sc
abbrev pR (l : List Pr) : List (List V) := l.map row_api_Pair
abbrev sR (l : List Sc) : List (List V) := l.map row_api_Score
def Val.c (v : Val) : List C := [iC v.kind, sC v.text, iC v.count, .v (.sl (pR v.pairs)), .v (.sl (strRows v.items)), .v (.sl (sR v.scores))]
def Val.els (v : Val) : Int := (v.pairs.length : Int) + v.items.length + v.scores.length
theorem elements_c (k n : Int) (t : ByteArray) (p i s : List (List V)) (h : p.length + i.length + s.length ≤ 1000000) : PCall Try.prog G 12 [.agg [iC k, sC t, iC n, .v (.sl p), .v (.sl i), .v (.sl s)]] (iV ((p.length + i.length + s.length : Nat) : Int)) := by
  have e1 : IntKind.i64.wrap ((p.length : Int) + i.length) = (p.length : Int) + i.length := IntWalk.i64_in _ (by omega)
  have e2 : IntKind.i64.wrap ((p.length : Int) + i.length + s.length) = (p.length : Int) + i.length + s.length := IntWalk.i64_in _ (by omega)
  refine pcallc mixed Try.func12 ac_value_elements ?_
  repeat' (first | (with_reducible first | refine Cn (fun h => ?_) fun h => ?_ | refine And.intro ?_ ?_ | refine wR ?_ | exact wr _ _ | refine wa ?_ | apply awp_join) | (with_reducible refine CallZ.z ?_) | simp -dsimp [go_sem, e1, e2])
def longS (s : ByteArray) : Bool := !okText s
def badP (p : Pr) : Bool := !okField p.1 || !okText p.2
def longM (s : Sc) : Bool := !okText s.1
def farN (s : Sc) : Bool := !okCount s.2
theorem checkFn1_c (s : ByteArray) : PCall Try.prog G 22 [sV s] (bV (longS s)) := by
  refine pcallc mixed Try.func22 ac_value_Check_1 ?_
  unfold longS
  repeat' (first | (with_reducible first | refine Cn (fun h => ?_) fun h => ?_ | refine And.intro ?_ ?_ | refine wR ?_ | exact wr _ _ | refine wa ?_ | apply awp_join | refine q (text_c _) ?_ | refine qd (text_c _) ?_ | refine qz (text_c _) ?_) | (with_reducible refine CallZ.z ?_) | simp -dsimp [go_sem])
theorem checkFn2_c (p : Pr) : PCall Try.prog G 24 [arg_api_Pair p] (bV (badP p)) := by
  refine pcallc mixed Try.func24 ac_value_Check_2 ?_
  unfold badP
  repeat' (first | (with_reducible first | refine Cn (fun h => ?_) fun h => ?_ | refine And.intro ?_ ?_ | refine wR ?_ | exact wr _ _ | refine wa ?_ | apply awp_join | refine q (text_c _) ?_ | refine qd (text_c _) ?_ | refine qz (text_c _) ?_ | refine q (field_c _) ?_ | refine qd (field_c _) ?_ | refine qz (field_c _) ?_ | refine q (text_c _) ?_ | refine qd (text_c _) ?_ | refine qz (text_c _) ?_ | refine q (field_c _) ?_ | refine qd (field_c _) ?_ | refine qz (field_c _) ?_) | (with_reducible refine CallZ.z ?_) | simp -dsimp [go_sem])
  all_goals simp_all
theorem checkFn3_c (s : Sc) : PCall Try.prog G 27 [arg_api_Score s] (bV (longM s)) := by
  refine pcallc mixed Try.func27 ac_value_Check_3 ?_
  unfold longM
  repeat' (first | (with_reducible first | refine Cn (fun h => ?_) fun h => ?_ | refine And.intro ?_ ?_ | refine wR ?_ | exact wr _ _ | refine wa ?_ | apply awp_join | refine q (text_c _) ?_ | refine qd (text_c _) ?_ | refine qz (text_c _) ?_) | (with_reducible refine CallZ.z ?_) | simp -dsimp [go_sem])
theorem checkFn4_c (s : Sc) : PCall Try.prog G 29 [arg_api_Score s] (bV (farN s)) := by
  refine pcallc mixed Try.func29 ac_value_Check_4 ?_
  unfold farN
  repeat' (first | (with_reducible first | refine Cn (fun h => ?_) fun h => ?_ | refine And.intro ?_ ?_ | refine wR ?_ | exact wr _ _ | refine wa ?_ | apply awp_join | refine q (count_c _) ?_ | refine qd (count_c _) ?_ | refine qz (count_c _) ?_) | (with_reducible refine CallZ.z ?_) | simp -dsimp [go_sem])
/-- Each member once. -/
def onceB (l : List Sc) (i : Nat) : Bool := (List.range i).all fun j => match l[j]? with | some s => decide (rankOf (l.take j) s.1 < 0) | none => true
theorem onceB_succ (l : List Sc) {i : Nat} {s : Sc} (h : l[i]? = some s) : onceB l (i + 1) = (onceB l i && decide (rankOf (l.take i) s.1 < 0)) := by
  unfold onceB
  rw [List.range_succ, List.all_append]
  simp [h]
def Val.bad (v : Val) : Bool := (v.kind != 1 && decide (v.text ≠ ⟨#[]⟩)) || (v.kind != 2 && decide (v.count ≠ 0)) || decide (0 < (if v.kind = 3 then 0 else (v.pairs.length : Int)) + (if v.kind = 4 ∨ v.kind = 5 then 0 else (v.items.length : Int)) + (if v.kind = 6 then 0 else (v.scores.length : Int)))
def Val.ord (v : Val) : Bool := rising bF v.pairs && rising bS v.scores && (decide (v.kind ≠ 5) || rising cmpB v.items)
def Val.order (v : Val) : Bool := v.ord && onceB v.scores v.scores.length
theorem ul_s (l : List Sc) : UL 2 (sR l) := by
  intro r hr
  obtain ⟨y, _, rfl⟩ := List.mem_map.1 hr
  rfl
def checkV (v : Val) : Int :=
  if v.kind < 1 then 3 else if 6 < v.kind then 3 else if v.bad = true then 8
  else if 3 ≤ v.kind ∧ (v.els < 1 ∨ 20 < v.els) then 1
  else if (!okText v.text || v.items.any longS) = true then 1
  else if v.pairs.any badP = true then 1
  else if v.scores.any longM = true then 1
  else if (!okCount v.count || v.scores.any farN) = true then 2
  else if v.order = true then 0 else 10
def Val.Small (v : Val) : Prop := v.pairs.length ≤ 1000 ∧ v.items.length ≤ 1000 ∧ v.scores.length ≤ 1000
end Go.Proofs.Ytcfpphadlgbfdaa
