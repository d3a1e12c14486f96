/- What commands make of a hash. -/
import Derived.Test.YtcfpphadlgbfdaaJ4
import Derived.Test.YtcfpphadlgbfdaaJ1i
set_option linter.unusedVariables false
set_option linter.unusedSimpArgs false
set_option maxRecDepth 100000
set_option maxHeartbeats 8000000
namespace Go.Proofs.Ytcfpphadlgbfdaa
open Go Go.RowKit Go.Proofs.AE
variable {G : Nat → AV}
structure Cmd where
  kind : Int
  key : ByteArray
  field : ByteArray
  text : ByteArray
  n : Int
def Cmd.c (c : Cmd) : List C := [iC c.kind, sC c.key, sC c.field, sC c.text, iC c.n]
structure Rep where
  code : Int
  text : ByteArray
  n : Int
  list : List ByteArray
def Rep.c (r : Rep) : List C := [iC r.code, sC r.text, iC r.n, .v (.sl (strRows r.list))]
def toldR (n : Int) : Rep := ⟨0, ⟨#[]⟩, n, []⟩
def failR (e : Int) : Rep := ⟨e, ⟨#[]⟩, 0, []⟩
def textR (t : ByteArray) : Rep := ⟨0, t, 0, []⟩
def flagN (b : Bool) : Int := if b then 1 else 0
theorem told_c (n : Int) : PCall Try.prog G 40 [iV n] (.agg (toldR n).c) := by
  refine pcallc mixed Try.func40 ac_value_told ?_
  unfold toldR Rep.c
  repeat' (first | (with_reducible first | refine Cn (fun h => ?_) fun h => ?_ | refine And.intro ?_ ?_ | refine wR ?_ | exact wr _ _ | refine wa ?_ | apply awp_join) | (with_reducible refine CallZ.z ?_) | simp -dsimp [go_sem])
theorem failed_c (n : Int) : PCall Try.prog G 18 [iV n] (.agg (failR n).c) := by
  refine pcallc mixed Try.func18 ac_value_failed ?_
  unfold failR Rep.c
  repeat' (first | (with_reducible first | refine Cn (fun h => ?_) fun h => ?_ | refine And.intro ?_ ?_ | refine wR ?_ | exact wr _ _ | refine wa ?_ | apply awp_join) | (with_reducible refine CallZ.z ?_) | simp -dsimp [go_sem])
theorem flag_c (b : Bool) : PCall Try.prog G 56 [bV b] (iV (flagN b)) := by
  cases b
  · refine pcallc mixed Try.func56 ac_value_flag ?_
    unfold flagN
    repeat' (first | (with_reducible first | refine Cn (fun h => ?_) fun h => ?_ | refine And.intro ?_ ?_ | refine wR ?_ | exact wr _ _ | refine wa ?_ | apply awp_join) | (with_reducible refine CallZ.z ?_) | simp -dsimp [go_sem])
  · refine pcallc mixed Try.func56 ac_value_flag ?_
    unfold flagN
    repeat' (first | (with_reducible first | refine Cn (fun h => ?_) fun h => ?_ | refine And.intro ?_ ?_ | refine wR ?_ | exact wr _ _ | refine wa ?_ | apply awp_join) | (with_reducible refine CallZ.z ?_) | simp -dsimp [go_sem])
/-- How many stand ahead. -/
def plc {α : Type} (lt : α → Bool) (l : List α) : Nat := (l.takeWhile lt).length
theorem plc_le {α : Type} (lt : α → Bool) (l : List α) : plc lt l ≤ l.length := (List.takeWhile_prefix lt).length_le
theorem plc_lt {α : Type} (lt : α → Bool) : ∀ (l : List α) (j : Nat) (a : α), l[j]? = some a → j < plc lt l → lt a = true
  | [], j, a, h, _ => by simp at h
  | x :: l, j, a, h, hj => by
    unfold plc at hj
    rw [List.takeWhile_cons] at hj
    cases hx : lt x with
    | false => rw [hx] at hj; simp at hj
    | true =>
      rw [hx] at hj
      cases j with
      | zero => simp at h; subst h; exact hx
      | succ j => exact plc_lt lt l j a (by simpa using h) (by simpa [plc] using hj)
theorem rising_tail {α : Type} {cmp : α → α → Int} {x : α} {l : List α} (h : rising cmp (x :: l) = true) : rising cmp l = true := by
  cases l with
  | nil => rfl
  | cons y l => simp only [rising, Bool.and_eq_true] at h; exact h.2
theorem rising_head {α : Type} {cmp : α → α → Int} (tr : ∀ a b c, cmp a b < 0 → cmp b c < 0 → cmp a c < 0) : ∀ {l : List α} {x : α}, rising cmp (x :: l) = true → ∀ y ∈ l, cmp x y < 0
  | [], _, _, y, hy => by simp at hy
  | z :: l, x, h, y, hy => by
    have h' := h
    simp only [rising, Bool.and_eq_true, decide_eq_true_eq] at h'
    rcases List.mem_cons.1 hy with rfl | hy
    · exact h'.1
    · exact tr _ _ _ h'.1 (rising_head tr h'.2 y hy)
theorem plc_ge {α : Type} {cmp : α → α → Int} (lt : α → Bool) (tr : ∀ a b c, cmp a b < 0 → cmp b c < 0 → cmp a c < 0) (hlt : ∀ a b, cmp a b < 0 → lt b = true → lt a = true) : ∀ (l : List α), rising cmp l = true → ∀ (j : Nat) (a : α), l[j]? = some a → plc lt l ≤ j → lt a = false
  | [], _, j, a, h, _ => by simp at h
  | x :: l, hr, j, a, h, hj => by
    unfold plc at hj
    rw [List.takeWhile_cons] at hj
    cases hx : lt x with
    | true =>
      rw [hx] at hj
      cases j with
      | zero => simp at hj
      | succ j => exact plc_ge lt tr hlt l (rising_tail hr) j a (by simpa using h) (by simpa [plc] using hj)
    | false =>
      cases j with
      | zero => simp at h; subst h; exact hx
      | succ j =>
        have ha : a ∈ l := List.mem_of_getElem? (by simpa using h)
        cases hA : lt a with
        | false => rfl
        | true => rw [hlt x a (rising_head tr hr a ha) hA] at hx; cases hx
/-! ### a hash -/
def hashAt (ps : List Pr) (f : ByteArray) : Nat := plc (fun p => decide (cmpB p.1 f < 0)) ps
def hashIn (ps : List Pr) (f : ByteArray) : Bool := at_api_Pair bF ps (f, ⟨#[]⟩) (hashAt ps f)
def hashV (ps : List Pr) (c : Cmd) : List Pr × Rep :=
  let i := hashAt ps c.field
  let there := hashIn ps c.field
  if c.kind = 4 then
    if there then (ps.set i ((ps[i]?.getD (c.field, c.text)).1, c.text), toldR 0)
    else if ps.length = 20 then (ps, failR 6)
    else (insAt ps i (c.field, c.text), toldR 1)
  else if c.kind = 5 then
    if there then (ps, textR (ps[i]?.getD (c.field, c.text)).2) else (ps, failR 5)
  else if there then (delAt ps i, toldR 1) else (ps, toldR 0)
theorem ul_p (l : List Pr) : UL 2 (pR l) := by
  intro r hr
  obtain ⟨y, _, rfl⟩ := List.mem_map.1 hr
  rfl
theorem ul_i (l : List ByteArray) : UL 1 (strRows l) := by
  intro r hr
  obtain ⟨y, _, rfl⟩ := List.mem_map.1 hr
  rfl
theorem map_ins {α β : Type} (f : α → β) (l : List α) (i : Nat) (x : α) : insAt (l.map f) i (f x) = (insAt l i x).map f := by simp [insAt]
theorem map_del {α β : Type} (f : α → β) (l : List α) (i : Nat) : delAt (l.map f) i = (delAt l i).map f := by simp [delAt]
abbrev ownHp (k : Int) (t : ByteArray) (n : Int) (p i s : List (List V)) : Hp := [some (.box 27 [iC k, sC t, iC n, .ar 1, .ar 2, .ar 3]), some (.arr 43 2 p), some (.arr 9 1 i), some (.arr 65 2 s)]
/-- Where a field stands, or would stand. -/
theorem hashFind_c (ps : List Pr) (f : ByteArray) (hl : ps.length ≤ 1000) (h1 : ∀ (j : Nat) a, ps[j]? = some a → hashAt ps f ≤ j → 0 ≤ cmpB a.1 f) :
    PCall Try.prog G 53 [.one (.v (.sl (pR ps))), .agg [sC f, sC ⟨#[]⟩], .fn 31 [] []] (.tup [iV (hashAt ps f), bV (hashIn ps f)]) :=
  bsearch_api_Pair 31 bF ps (f, ⟨#[]⟩) (hashAt ps f) (by omega) en31 byField_c (plc_le _ _) (fun j a h1 h2 => by simpa using plc_lt _ ps j a h1 h2) h1
theorem hash4_c (k n : Int) (t : ByteArray) (ps : List Pr) (its scs : List (List V)) (c : Cmd) (hk : c.kind = 4) (hl : ps.length ≤ 1000) (h1 : ∀ (j : Nat) a, ps[j]? = some a → hashAt ps c.field ≤ j → 0 ≤ cmpB a.1 c.field) :
    DetCall Try.prog G 42 1 (ownHp k t n (pR ps) its scs) [.one (.ptr 0 0), .agg c.c] (.agg (hashV ps c).2.c) (ownHp k t n (pR (hashV ps c).1) its scs) := by
  have hf := hashFind_c (G := G) ps c.field hl h1
  obtain ⟨kk, key, f, tx, cn⟩ := c
  simp only at hk h1 hf
  subst hk
  have hle := plc_le (fun p : Pr => decide (cmpB p.1 f < 0)) ps
  change hashAt ps f ≤ ps.length at hle
  unfold hashV
  simp only
  cases hin : hashIn ps f with
  | true =>
    have hat : ∃ a, ps[hashAt ps f]? = some a := by
      unfold hashIn at_api_Pair at hin
      cases h : ps[hashAt ps f]? with
      | none => rw [h] at hin; cases hin
      | some a => exact ⟨a, rfl⟩
    obtain ⟨a, ha⟩ := hat
    have hlt := lt_of_getElem? ha
    rw [hin] at hf
    generalize hashAt ps f = i at *
    have hd := delete_api_Pair (G := G) (pR ps) i (by simpa using hlt) (by simpa using (by omega : ps.length ≤ 1000000))
    rw [map_del] at hd
    have w3 : IntKind.i64.wrap ((i : Int) + 1) = (i : Int) + 1 := IntWalk.i64_in _ (by omega)
    refine gcallc mixed Try.func42 ac_value_hash ?_
    repeat' (first | (with_reducible first | refine Cn (fun h => ?_) fun h => ?_ | refine And.intro ?_ ?_ | refine wR ?_ | exact wr _ _ | refine wa ?_ | apply awp_join | refine q (told_c _) ?_ | refine qd (told_c _) ?_ | refine qz (told_c _) ?_ | refine q (failed_c _) ?_ | refine qd (failed_c _) ?_ | refine qz (failed_c _) ?_ | refine q (flag_c _) ?_ | refine qd (flag_c _) ?_ | refine qz (flag_c _) ?_ | refine qg hd ?_ | refine qgd hd ?_) | (with_reducible refine PCall.db (hf) ?_ ?_ ?_) | (with_reducible refine CallZ.z ?_) | simp -dsimp [go_sem, ha, w3, Cmd.c, Rep.c, toldR, failR, textR, flagN])
    all_goals first | omega | (have h' : ps.length = 20 := by (simp at h; omega)
                               simp [h']; done) | (have h' : ¬ ps.length = 20 := by (simp at h; omega)
                                                   simp [h']; done)
  | false =>
    rw [hin] at hf
    generalize hashAt ps f = i at *
    have hd := insert_api_Pair (G := G) (pR ps) (row_api_Pair (f, tx)) i rfl (by simpa using hle) (by simpa using (by omega : ps.length ≤ 1000000))
    rw [map_ins] at hd
    refine gcallc mixed Try.func42 ac_value_hash ?_
    repeat' (first | (with_reducible first | refine Cn (fun h => ?_) fun h => ?_ | refine And.intro ?_ ?_ | refine wR ?_ | exact wr _ _ | refine wa ?_ | apply awp_join | refine q (told_c _) ?_ | refine qd (told_c _) ?_ | refine qz (told_c _) ?_ | refine q (failed_c _) ?_ | refine qd (failed_c _) ?_ | refine qz (failed_c _) ?_ | refine q (flag_c _) ?_ | refine qd (flag_c _) ?_ | refine qz (flag_c _) ?_ | refine qg hd ?_ | refine qgd hd ?_) | (with_reducible refine PCall.db (hf) ?_ ?_ ?_) | (with_reducible refine CallZ.z ?_) | simp -dsimp [go_sem, Cmd.c, Rep.c, toldR, failR, textR, flagN])
    all_goals first | omega | (have h' : ps.length = 20 := by (simp at h; omega)
                               simp [h']; done) | (have h' : ¬ ps.length = 20 := by (simp at h; omega)
                                                   simp [h']; done)
theorem hash5_c (k n : Int) (t : ByteArray) (ps : List Pr) (its scs : List (List V)) (c : Cmd) (hk : c.kind = 5) (hl : ps.length ≤ 1000) (h1 : ∀ (j : Nat) a, ps[j]? = some a → hashAt ps c.field ≤ j → 0 ≤ cmpB a.1 c.field) :
    DetCall Try.prog G 42 1 (ownHp k t n (pR ps) its scs) [.one (.ptr 0 0), .agg c.c] (.agg (hashV ps c).2.c) (ownHp k t n (pR (hashV ps c).1) its scs) := by
  have hf := hashFind_c (G := G) ps c.field hl h1
  obtain ⟨kk, key, f, tx, cn⟩ := c
  simp only at hk h1 hf
  subst hk
  have hle := plc_le (fun p : Pr => decide (cmpB p.1 f < 0)) ps
  change hashAt ps f ≤ ps.length at hle
  unfold hashV
  simp only
  cases hin : hashIn ps f with
  | true =>
    have hat : ∃ a, ps[hashAt ps f]? = some a := by
      unfold hashIn at_api_Pair at hin
      cases h : ps[hashAt ps f]? with
      | none => rw [h] at hin; cases hin
      | some a => exact ⟨a, rfl⟩
    obtain ⟨a, ha⟩ := hat
    have hlt := lt_of_getElem? ha
    rw [hin] at hf
    generalize hashAt ps f = i at *
    have hd := delete_api_Pair (G := G) (pR ps) i (by simpa using hlt) (by simpa using (by omega : ps.length ≤ 1000000))
    rw [map_del] at hd
    have w3 : IntKind.i64.wrap ((i : Int) + 1) = (i : Int) + 1 := IntWalk.i64_in _ (by omega)
    refine gcallc mixed Try.func42 ac_value_hash ?_
    repeat' (first | (with_reducible first | refine Cn (fun h => ?_) fun h => ?_ | refine And.intro ?_ ?_ | refine wR ?_ | exact wr _ _ | refine wa ?_ | apply awp_join | refine q (told_c _) ?_ | refine qd (told_c _) ?_ | refine qz (told_c _) ?_ | refine q (failed_c _) ?_ | refine qd (failed_c _) ?_ | refine qz (failed_c _) ?_ | refine q (flag_c _) ?_ | refine qd (flag_c _) ?_ | refine qz (flag_c _) ?_ | refine qg hd ?_ | refine qgd hd ?_) | (with_reducible refine PCall.db (hf) ?_ ?_ ?_) | (with_reducible refine CallZ.z ?_) | simp -dsimp [go_sem, ha, w3, Cmd.c, Rep.c, toldR, failR, textR, flagN])
    all_goals first | omega | (have h' : ps.length = 20 := by (simp at h; omega)
                               simp [h']; done) | (have h' : ¬ ps.length = 20 := by (simp at h; omega)
                                                   simp [h']; done)
  | false =>
    rw [hin] at hf
    generalize hashAt ps f = i at *
    have hd := insert_api_Pair (G := G) (pR ps) (row_api_Pair (f, tx)) i rfl (by simpa using hle) (by simpa using (by omega : ps.length ≤ 1000000))
    rw [map_ins] at hd
    refine gcallc mixed Try.func42 ac_value_hash ?_
    repeat' (first | (with_reducible first | refine Cn (fun h => ?_) fun h => ?_ | refine And.intro ?_ ?_ | refine wR ?_ | exact wr _ _ | refine wa ?_ | apply awp_join | refine q (told_c _) ?_ | refine qd (told_c _) ?_ | refine qz (told_c _) ?_ | refine q (failed_c _) ?_ | refine qd (failed_c _) ?_ | refine qz (failed_c _) ?_ | refine q (flag_c _) ?_ | refine qd (flag_c _) ?_ | refine qz (flag_c _) ?_ | refine qg hd ?_ | refine qgd hd ?_) | (with_reducible refine PCall.db (hf) ?_ ?_ ?_) | (with_reducible refine CallZ.z ?_) | simp -dsimp [go_sem, Cmd.c, Rep.c, toldR, failR, textR, flagN])
    all_goals first | omega | (have h' : ps.length = 20 := by (simp at h; omega)
                               simp [h']; done) | (have h' : ¬ ps.length = 20 := by (simp at h; omega)
                                                   simp [h']; done)
theorem hash6_c (k n : Int) (t : ByteArray) (ps : List Pr) (its scs : List (List V)) (c : Cmd) (hk : c.kind = 6) (hl : ps.length ≤ 1000) (h1 : ∀ (j : Nat) a, ps[j]? = some a → hashAt ps c.field ≤ j → 0 ≤ cmpB a.1 c.field) :
    DetCall Try.prog G 42 1 (ownHp k t n (pR ps) its scs) [.one (.ptr 0 0), .agg c.c] (.agg (hashV ps c).2.c) (ownHp k t n (pR (hashV ps c).1) its scs) := by
  have hf := hashFind_c (G := G) ps c.field hl h1
  obtain ⟨kk, key, f, tx, cn⟩ := c
  simp only at hk h1 hf
  subst hk
  have hle := plc_le (fun p : Pr => decide (cmpB p.1 f < 0)) ps
  change hashAt ps f ≤ ps.length at hle
  unfold hashV
  simp only
  cases hin : hashIn ps f with
  | true =>
    have hat : ∃ a, ps[hashAt ps f]? = some a := by
      unfold hashIn at_api_Pair at hin
      cases h : ps[hashAt ps f]? with
      | none => rw [h] at hin; cases hin
      | some a => exact ⟨a, rfl⟩
    obtain ⟨a, ha⟩ := hat
    have hlt := lt_of_getElem? ha
    rw [hin] at hf
    generalize hashAt ps f = i at *
    have hd := delete_api_Pair (G := G) (pR ps) i (by simpa using hlt) (by simpa using (by omega : ps.length ≤ 1000000))
    rw [map_del] at hd
    have w3 : IntKind.i64.wrap ((i : Int) + 1) = (i : Int) + 1 := IntWalk.i64_in _ (by omega)
    refine gcallc mixed Try.func42 ac_value_hash ?_
    repeat' (first | (with_reducible first | refine Cn (fun h => ?_) fun h => ?_ | refine And.intro ?_ ?_ | refine wR ?_ | exact wr _ _ | refine wa ?_ | apply awp_join | refine q (told_c _) ?_ | refine qd (told_c _) ?_ | refine qz (told_c _) ?_ | refine q (failed_c _) ?_ | refine qd (failed_c _) ?_ | refine qz (failed_c _) ?_ | refine q (flag_c _) ?_ | refine qd (flag_c _) ?_ | refine qz (flag_c _) ?_ | refine qg hd ?_ | refine qgd hd ?_) | (with_reducible refine PCall.db (hf) ?_ ?_ ?_) | (with_reducible refine CallZ.z ?_) | simp -dsimp [go_sem, ha, w3, Cmd.c, Rep.c, toldR, failR, textR, flagN])
    all_goals first | omega | (have h' : ps.length = 20 := by (simp at h; omega)
                               simp [h']; done) | (have h' : ¬ ps.length = 20 := by (simp at h; omega)
                                                   simp [h']; done)
  | false =>
    rw [hin] at hf
    generalize hashAt ps f = i at *
    have hd := insert_api_Pair (G := G) (pR ps) (row_api_Pair (f, tx)) i rfl (by simpa using hle) (by simpa using (by omega : ps.length ≤ 1000000))
    rw [map_ins] at hd
    refine gcallc mixed Try.func42 ac_value_hash ?_
    repeat' (first | (with_reducible first | refine Cn (fun h => ?_) fun h => ?_ | refine And.intro ?_ ?_ | refine wR ?_ | exact wr _ _ | refine wa ?_ | apply awp_join | refine q (told_c _) ?_ | refine qd (told_c _) ?_ | refine qz (told_c _) ?_ | refine q (failed_c _) ?_ | refine qd (failed_c _) ?_ | refine qz (failed_c _) ?_ | refine q (flag_c _) ?_ | refine qd (flag_c _) ?_ | refine qz (flag_c _) ?_ | refine qg hd ?_ | refine qgd hd ?_) | (with_reducible refine PCall.db (hf) ?_ ?_ ?_) | (with_reducible refine CallZ.z ?_) | simp -dsimp [go_sem, Cmd.c, Rep.c, toldR, failR, textR, flagN])
    all_goals first | omega | (have h' : ps.length = 20 := by (simp at h; omega)
                               simp [h']; done) | (have h' : ¬ ps.length = 20 := by (simp at h; omega)
                                                   simp [h']; done)
end Go.Proofs.Ytcfpphadlgbfdaa
