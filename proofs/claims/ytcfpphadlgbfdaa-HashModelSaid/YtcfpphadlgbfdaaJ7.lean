/- What commands make of a set and of ranks. -/
import Derived.Test.YtcfpphadlgbfdaaJ6
set_option linter.unusedVariables false
set_option linter.unusedSimpArgs false
set_option maxRecDepth 100000
set_option maxHeartbeats 8000000
namespace Go.Proofs.Ytcfpphadlgbfdaa
open Go Go.RowKit Go.Proofs.AE
variable {G : Nat → AV}
/-! ### a set -/
def setAt (l : List ByteArray) (t : ByteArray) : Nat := plc (fun a => lessB a t) l
def setIn (l : List ByteArray) (t : ByteArray) : Bool := at_string l t (setAt l t)
def setV (l : List ByteArray) (c : Cmd) : List ByteArray × Rep :=
  let i := setAt l c.text
  let there := setIn l c.text
  if c.kind = 11 then
    if there then (l, toldR 0) else if l.length = 20 then (l, failR 6) else (insAt l i c.text, toldR 1)
  else if c.kind = 12 then (if there then (delAt l i, toldR 1) else (l, toldR 0))
  else (l, toldR (flagN there))
theorem set11_c (k n : Int) (t : ByteArray) (l : List ByteArray) (ps scs : List (List V)) (c : Cmd) (hk : c.kind = 11) (hl : l.length ≤ 1000) (h1 : ∀ (j : Nat) a, l[j]? = some a → setAt l c.text ≤ j → lessB a c.text = false) :
    DetCall Try.prog G 44 1 (ownHp k t n ps (strRows l) scs) [.one (.ptr 0 0), .agg c.c] (.agg (setV l c).2.c) (ownHp k t n ps (strRows (setV l c).1) scs) := by
  have hf := bsearch_string (G := G) l c.text (setAt l c.text) (by omega) (plc_le _ _) (fun j a h1 h2 => plc_lt _ l j a h1 h2) h1
  obtain ⟨kk, key, f, tx, cn⟩ := c
  simp only at hk h1 hf
  subst hk
  have hle := plc_le (fun a => lessB a tx) l
  change setAt l tx ≤ l.length at hle
  change PCall Try.prog G _ _ (.tup [iV (setAt l tx), bV (setIn l tx)]) at hf
  unfold setV
  simp only
  cases hin : setIn l tx with
  | true =>
    have hat : ∃ a, l[setAt l tx]? = some a := by
      unfold setIn at_string at hin
      cases h : l[setAt l tx]? with
      | none => rw [h] at hin; cases hin
      | some a => exact ⟨a, rfl⟩
    obtain ⟨a, ha⟩ := hat
    have hlt := lt_of_getElem? ha
    rw [hin] at hf
    generalize setAt l tx = i at *
    have hd := delete_string (G := G) (strRows l) i (by simpa using hlt) (by simpa using (by omega : l.length ≤ 1000000))
    rw [map_del] at hd
    have w3 : IntKind.i64.wrap ((i : Int) + 1) = (i : Int) + 1 := IntWalk.i64_in _ (by omega)
    refine gcallc mixed Try.func44 ac_value_set ?_
    repeat' (first | (with_reducible first | refine Cn (fun h => ?_) fun h => ?_ | refine And.intro ?_ ?_ | refine wR ?_ | exact wr _ _ | refine wa ?_ | apply awp_join | refine q (told_c _) ?_ | refine qd (told_c _) ?_ | refine qz (told_c _) ?_ | refine q (failed_c _) ?_ | refine qd (failed_c _) ?_ | refine qz (failed_c _) ?_ | refine q (flag_c _) ?_ | refine qd (flag_c _) ?_ | refine qz (flag_c _) ?_ | refine qg hd ?_ | refine qgd hd ?_) | (with_reducible refine PCall.db (hf) ?_ ?_ ?_) | (with_reducible refine CallZ.z ?_) | simp -dsimp [go_sem, ha, w3, Cmd.c, Rep.c, toldR, failR, textR, flagN])
    all_goals first | omega
  | false =>
    rw [hin] at hf
    generalize setAt l tx = i at *
    have hd := insert_string (G := G) (strRows l) (row_string tx) i rfl (by simpa using hle) (by simpa using (by omega : l.length ≤ 1000000))
    rw [map_ins] at hd
    refine gcallc mixed Try.func44 ac_value_set ?_
    repeat' (first | (with_reducible first | refine Cn (fun h => ?_) fun h => ?_ | refine And.intro ?_ ?_ | refine wR ?_ | exact wr _ _ | refine wa ?_ | apply awp_join | refine q (told_c _) ?_ | refine qd (told_c _) ?_ | refine qz (told_c _) ?_ | refine q (failed_c _) ?_ | refine qd (failed_c _) ?_ | refine qz (failed_c _) ?_ | refine q (flag_c _) ?_ | refine qd (flag_c _) ?_ | refine qz (flag_c _) ?_ | refine qg hd ?_ | refine qgd hd ?_) | (with_reducible refine PCall.db (hf) ?_ ?_ ?_) | (with_reducible refine CallZ.z ?_) | simp -dsimp [go_sem, Cmd.c, Rep.c, toldR, failR, textR, flagN])
    all_goals first | omega | (have h' : l.length = 20 := by (simp at h; omega)
                               simp [h']; done) | (have h' : ¬ l.length = 20 := by (simp at h; omega)
                                                   simp [h']; done)
theorem set12_c (k n : Int) (t : ByteArray) (l : List ByteArray) (ps scs : List (List V)) (c : Cmd) (hk : c.kind = 12) (hl : l.length ≤ 1000) (h1 : ∀ (j : Nat) a, l[j]? = some a → setAt l c.text ≤ j → lessB a c.text = false) :
    DetCall Try.prog G 44 1 (ownHp k t n ps (strRows l) scs) [.one (.ptr 0 0), .agg c.c] (.agg (setV l c).2.c) (ownHp k t n ps (strRows (setV l c).1) scs) := by
  have hf := bsearch_string (G := G) l c.text (setAt l c.text) (by omega) (plc_le _ _) (fun j a h1 h2 => plc_lt _ l j a h1 h2) h1
  obtain ⟨kk, key, f, tx, cn⟩ := c
  simp only at hk h1 hf
  subst hk
  have hle := plc_le (fun a => lessB a tx) l
  change setAt l tx ≤ l.length at hle
  change PCall Try.prog G _ _ (.tup [iV (setAt l tx), bV (setIn l tx)]) at hf
  unfold setV
  simp only
  cases hin : setIn l tx with
  | true =>
    have hat : ∃ a, l[setAt l tx]? = some a := by
      unfold setIn at_string at hin
      cases h : l[setAt l tx]? with
      | none => rw [h] at hin; cases hin
      | some a => exact ⟨a, rfl⟩
    obtain ⟨a, ha⟩ := hat
    have hlt := lt_of_getElem? ha
    rw [hin] at hf
    generalize setAt l tx = i at *
    have hd := delete_string (G := G) (strRows l) i (by simpa using hlt) (by simpa using (by omega : l.length ≤ 1000000))
    rw [map_del] at hd
    have w3 : IntKind.i64.wrap ((i : Int) + 1) = (i : Int) + 1 := IntWalk.i64_in _ (by omega)
    refine gcallc mixed Try.func44 ac_value_set ?_
    repeat' (first | (with_reducible first | refine Cn (fun h => ?_) fun h => ?_ | refine And.intro ?_ ?_ | refine wR ?_ | exact wr _ _ | refine wa ?_ | apply awp_join | refine q (told_c _) ?_ | refine qd (told_c _) ?_ | refine qz (told_c _) ?_ | refine q (failed_c _) ?_ | refine qd (failed_c _) ?_ | refine qz (failed_c _) ?_ | refine q (flag_c _) ?_ | refine qd (flag_c _) ?_ | refine qz (flag_c _) ?_ | refine qg hd ?_ | refine qgd hd ?_) | (with_reducible refine PCall.db (hf) ?_ ?_ ?_) | (with_reducible refine CallZ.z ?_) | simp -dsimp [go_sem, ha, w3, Cmd.c, Rep.c, toldR, failR, textR, flagN])
    all_goals first | omega
  | false =>
    rw [hin] at hf
    generalize setAt l tx = i at *
    have hd := insert_string (G := G) (strRows l) (row_string tx) i rfl (by simpa using hle) (by simpa using (by omega : l.length ≤ 1000000))
    rw [map_ins] at hd
    refine gcallc mixed Try.func44 ac_value_set ?_
    repeat' (first | (with_reducible first | refine Cn (fun h => ?_) fun h => ?_ | refine And.intro ?_ ?_ | refine wR ?_ | exact wr _ _ | refine wa ?_ | apply awp_join | refine q (told_c _) ?_ | refine qd (told_c _) ?_ | refine qz (told_c _) ?_ | refine q (failed_c _) ?_ | refine qd (failed_c _) ?_ | refine qz (failed_c _) ?_ | refine q (flag_c _) ?_ | refine qd (flag_c _) ?_ | refine qz (flag_c _) ?_ | refine qg hd ?_ | refine qgd hd ?_) | (with_reducible refine PCall.db (hf) ?_ ?_ ?_) | (with_reducible refine CallZ.z ?_) | simp -dsimp [go_sem, Cmd.c, Rep.c, toldR, failR, textR, flagN])
    all_goals first | omega | (have h' : l.length = 20 := by (simp at h; omega)
                               simp [h']; done) | (have h' : ¬ l.length = 20 := by (simp at h; omega)
                                                   simp [h']; done)
theorem set13_c (k n : Int) (t : ByteArray) (l : List ByteArray) (ps scs : List (List V)) (c : Cmd) (hk : c.kind = 13) (hl : l.length ≤ 1000) (h1 : ∀ (j : Nat) a, l[j]? = some a → setAt l c.text ≤ j → lessB a c.text = false) :
    DetCall Try.prog G 44 1 (ownHp k t n ps (strRows l) scs) [.one (.ptr 0 0), .agg c.c] (.agg (setV l c).2.c) (ownHp k t n ps (strRows (setV l c).1) scs) := by
  have hf := bsearch_string (G := G) l c.text (setAt l c.text) (by omega) (plc_le _ _) (fun j a h1 h2 => plc_lt _ l j a h1 h2) h1
  obtain ⟨kk, key, f, tx, cn⟩ := c
  simp only at hk h1 hf
  subst hk
  have hle := plc_le (fun a => lessB a tx) l
  change setAt l tx ≤ l.length at hle
  change PCall Try.prog G _ _ (.tup [iV (setAt l tx), bV (setIn l tx)]) at hf
  unfold setV
  simp only
  cases hin : setIn l tx with
  | true =>
    have hat : ∃ a, l[setAt l tx]? = some a := by
      unfold setIn at_string at hin
      cases h : l[setAt l tx]? with
      | none => rw [h] at hin; cases hin
      | some a => exact ⟨a, rfl⟩
    obtain ⟨a, ha⟩ := hat
    have hlt := lt_of_getElem? ha
    rw [hin] at hf
    generalize setAt l tx = i at *
    have hd := delete_string (G := G) (strRows l) i (by simpa using hlt) (by simpa using (by omega : l.length ≤ 1000000))
    rw [map_del] at hd
    have w3 : IntKind.i64.wrap ((i : Int) + 1) = (i : Int) + 1 := IntWalk.i64_in _ (by omega)
    refine gcallc mixed Try.func44 ac_value_set ?_
    repeat' (first | (with_reducible first | refine Cn (fun h => ?_) fun h => ?_ | refine And.intro ?_ ?_ | refine wR ?_ | exact wr _ _ | refine wa ?_ | apply awp_join | refine q (told_c _) ?_ | refine qd (told_c _) ?_ | refine qz (told_c _) ?_ | refine q (failed_c _) ?_ | refine qd (failed_c _) ?_ | refine qz (failed_c _) ?_ | refine q (flag_c _) ?_ | refine qd (flag_c _) ?_ | refine qz (flag_c _) ?_ | refine qg hd ?_ | refine qgd hd ?_) | (with_reducible refine PCall.db (hf) ?_ ?_ ?_) | (with_reducible refine CallZ.z ?_) | simp -dsimp [go_sem, ha, w3, Cmd.c, Rep.c, toldR, failR, textR, flagN])
    all_goals first | omega
  | false =>
    rw [hin] at hf
    generalize setAt l tx = i at *
    have hd := insert_string (G := G) (strRows l) (row_string tx) i rfl (by simpa using hle) (by simpa using (by omega : l.length ≤ 1000000))
    rw [map_ins] at hd
    refine gcallc mixed Try.func44 ac_value_set ?_
    repeat' (first | (with_reducible first | refine Cn (fun h => ?_) fun h => ?_ | refine And.intro ?_ ?_ | refine wR ?_ | exact wr _ _ | refine wa ?_ | apply awp_join | refine q (told_c _) ?_ | refine qd (told_c _) ?_ | refine qz (told_c _) ?_ | refine q (failed_c _) ?_ | refine qd (failed_c _) ?_ | refine qz (failed_c _) ?_ | refine q (flag_c _) ?_ | refine qd (flag_c _) ?_ | refine qz (flag_c _) ?_ | refine qg hd ?_ | refine qgd hd ?_) | (with_reducible refine PCall.db (hf) ?_ ?_ ?_) | (with_reducible refine CallZ.z ?_) | simp -dsimp [go_sem, Cmd.c, Rep.c, toldR, failR, textR, flagN])
    all_goals first | omega | (have h' : l.length = 20 := by (simp at h; omega)
                               simp [h']; done) | (have h' : ¬ l.length = 20 := by (simp at h; omega)
                                                   simp [h']; done)
/-! ### ranks -/
theorem firstI_lt {α : Type} (p : α → Bool) : ∀ (l : List α) (i : Nat), firstI p i l = -1 ∨ ∃ j : Nat, firstI p i l = ((i + j : Nat) : Int) ∧ j < l.length
  | [], _ => .inl rfl
  | x :: l, i => by
    unfold firstI
    split
    · exact .inr ⟨0, by simp, by simp⟩
    · rcases firstI_lt p l (i + 1) with h | ⟨j, h, hj⟩
      · exact .inl h
      · exact .inr ⟨j + 1, by rw [h]; congr 1; omega, by simpa using hj⟩
theorem rankOf_cases (l : List Sc) (m : ByteArray) : rankOf l m = -1 ∨ ∃ j : Nat, rankOf l m = j ∧ j < l.length := by
  have := firstI_lt (fun s : Sc => decide (s.1 = m)) l 0
  simpa [rankOf] using this
def rankCut (l : List Sc) (m : ByteArray) : List Sc := if rankOf l m < 0 then l else delAt l (rankOf l m).toNat
def rankAt (l : List Sc) (m : ByteArray) (n : Int) : Nat := plc (fun a => decide (bS a (m, n) < 0)) l
def ranksV (l : List Sc) (c : Cmd) : List Sc × Rep :=
  let i := rankOf l c.text
  if c.kind = 16 then (l, if i < 0 then failR 5 else toldR i)
  else if c.kind = 15 then (rankCut l c.text, toldR (if i < 0 then 0 else 1))
  else if i < 0 ∧ l.length = 20 then (l, failR 6)
  else (insAt (rankCut l c.text) (rankAt (rankCut l c.text) c.text c.n) (c.text, c.n), toldR (if i < 0 then 1 else 0))
theorem ranks14_c (k n : Int) (t : ByteArray) (l : List Sc) (ps its : List (List V)) (c : Cmd) (hk : c.kind = 14) (hl : l.length ≤ 1000) (h1 : ∀ (j : Nat) a, (rankCut l c.text)[j]? = some a → rankAt (rankCut l c.text) c.text c.n ≤ j → 0 ≤ bS a (c.text, c.n)) :
    DetCall Try.prog G 45 1 (ownHp k t n ps its (sR l)) [.one (.ptr 0 0), .agg c.c] (.agg (ranksV l c).2.c) (ownHp k t n ps its (sR (ranksV l c).1)) := by
  have hcl : (rankCut l c.text).length ≤ 1000 := by
    unfold rankCut
    split
    · exact hl
    · unfold delAt; simp; omega
  have hf := bsearch_api_Score (G := G) 33 bS (rankCut l c.text) (c.text, c.n) (rankAt (rankCut l c.text) c.text c.n) (by omega) en33 byScore_c (plc_le _ _) (fun j a h1 h2 => by simpa using plc_lt _ _ j a h1 h2) h1
  have hr := rank_c (G := G) c.text l (by omega)
  have hle := plc_le (fun a : Sc => decide (bS a (c.text, c.n) < 0)) (rankCut l c.text)
  change rankAt (rankCut l c.text) c.text c.n ≤ _ at hle
  have hi := insert_api_Score (G := G) (sR (rankCut l c.text)) (row_api_Score (c.text, c.n)) (rankAt (rankCut l c.text) c.text c.n) rfl (by simpa using hle) (by simpa using (by omega : (rankCut l c.text).length ≤ 1000000))
  rw [map_ins] at hi
  obtain ⟨kk, key, f, tx, cn⟩ := c
  simp only at hk h1 hf hi hr hle hcl
  subst hk
  unfold ranksV
  simp only
  generalize at_api_Score bS (rankCut l tx) (tx, cn) (rankAt (rankCut l tx) tx cn) = b at *
  generalize rankAt (rankCut l tx) tx cn = a at *
  rcases rankOf_cases l tx with hn | ⟨j, hj, hlt⟩
  · have hc : rankCut l tx = l := by unfold rankCut; rw [if_pos (by omega)]
    rw [hc] at hf hi hle ⊢
    rw [hn] at hr ⊢
    refine gcallc mixed Try.func45 ac_value_ranks ?_
    repeat' (first | (with_reducible first | refine Cn (fun h => ?_) fun h => ?_ | refine And.intro ?_ ?_ | refine wR ?_ | exact wr _ _ | refine wa ?_ | apply awp_join | refine q (told_c _) ?_ | refine qd (told_c _) ?_ | refine qz (told_c _) ?_ | refine q (failed_c _) ?_ | refine qd (failed_c _) ?_ | refine qz (failed_c _) ?_ | refine q (flag_c _) ?_ | refine qd (flag_c _) ?_ | refine qz (flag_c _) ?_ | refine qg hi ?_ | refine qgd hi ?_) | (with_reducible refine PCall.db (hr) ?_ ?_ ?_) | (with_reducible refine PCall.db (hf) ?_ ?_ ?_) | (with_reducible refine CallZ.z ?_) | simp -dsimp [go_sem, Cmd.c, Rep.c, toldR, failR, textR, flagN])
    all_goals first | omega | (have h' : l.length = 20 := by (simp at h; omega)
                               simp [h']; done) | (have h' : ¬ l.length = 20 := by (simp at h; omega)
                                                   simp [h']; done)
  · have hc : rankCut l tx = delAt l j := by unfold rankCut; rw [if_neg (by omega), hj]; rfl
    rw [hc] at hf hi hle ⊢
    rw [hj] at hr ⊢
    have hd := delete_api_Score (G := G) (sR l) j (by simpa using hlt) (by simpa using (by omega : l.length ≤ 1000000))
    rw [map_del] at hd
    have w3 : IntKind.i64.wrap ((j : Int) + 1) = (j : Int) + 1 := IntWalk.i64_in _ (by omega)
    have q3 : ((j : Int) < 0) = False := by simp
    have q1 : decide ((j : Int) < 0) = false := by simp
    have q2 : decide (0 ≤ (j : Int)) = true := by simp
    refine gcallc mixed Try.func45 ac_value_ranks ?_
    repeat' (first | (with_reducible first | refine Cn (fun h => ?_) fun h => ?_ | refine And.intro ?_ ?_ | refine wR ?_ | exact wr _ _ | refine wa ?_ | apply awp_join | refine q (told_c _) ?_ | refine qd (told_c _) ?_ | refine qz (told_c _) ?_ | refine q (failed_c _) ?_ | refine qd (failed_c _) ?_ | refine qz (failed_c _) ?_ | refine q (flag_c _) ?_ | refine qd (flag_c _) ?_ | refine qz (flag_c _) ?_ | refine qg hd ?_ | refine qgd hd ?_ | refine qg hi ?_ | refine qgd hi ?_) | (with_reducible refine PCall.db (hr) ?_ ?_ ?_) | (with_reducible refine PCall.db (hf) ?_ ?_ ?_) | (with_reducible refine CallZ.z ?_) | simp -dsimp [go_sem, w3, q1, q2, q3, false_and, if_false, Cmd.c, Rep.c, toldR, failR, textR, flagN])
    all_goals first | omega
theorem ranks15_c (k n : Int) (t : ByteArray) (l : List Sc) (ps its : List (List V)) (c : Cmd) (hk : c.kind = 15) (hl : l.length ≤ 1000) (h1 : ∀ (j : Nat) a, (rankCut l c.text)[j]? = some a → rankAt (rankCut l c.text) c.text c.n ≤ j → 0 ≤ bS a (c.text, c.n)) :
    DetCall Try.prog G 45 1 (ownHp k t n ps its (sR l)) [.one (.ptr 0 0), .agg c.c] (.agg (ranksV l c).2.c) (ownHp k t n ps its (sR (ranksV l c).1)) := by
  have hcl : (rankCut l c.text).length ≤ 1000 := by
    unfold rankCut
    split
    · exact hl
    · unfold delAt; simp; omega
  have hf := bsearch_api_Score (G := G) 33 bS (rankCut l c.text) (c.text, c.n) (rankAt (rankCut l c.text) c.text c.n) (by omega) en33 byScore_c (plc_le _ _) (fun j a h1 h2 => by simpa using plc_lt _ _ j a h1 h2) h1
  have hr := rank_c (G := G) c.text l (by omega)
  have hle := plc_le (fun a : Sc => decide (bS a (c.text, c.n) < 0)) (rankCut l c.text)
  change rankAt (rankCut l c.text) c.text c.n ≤ _ at hle
  have hi := insert_api_Score (G := G) (sR (rankCut l c.text)) (row_api_Score (c.text, c.n)) (rankAt (rankCut l c.text) c.text c.n) rfl (by simpa using hle) (by simpa using (by omega : (rankCut l c.text).length ≤ 1000000))
  rw [map_ins] at hi
  obtain ⟨kk, key, f, tx, cn⟩ := c
  simp only at hk h1 hf hi hr hle hcl
  subst hk
  unfold ranksV
  simp only
  generalize at_api_Score bS (rankCut l tx) (tx, cn) (rankAt (rankCut l tx) tx cn) = b at *
  generalize rankAt (rankCut l tx) tx cn = a at *
  rcases rankOf_cases l tx with hn | ⟨j, hj, hlt⟩
  · have hc : rankCut l tx = l := by unfold rankCut; rw [if_pos (by omega)]
    rw [hc] at hf hi hle ⊢
    rw [hn] at hr ⊢
    refine gcallc mixed Try.func45 ac_value_ranks ?_
    repeat' (first | (with_reducible first | refine Cn (fun h => ?_) fun h => ?_ | refine And.intro ?_ ?_ | refine wR ?_ | exact wr _ _ | refine wa ?_ | apply awp_join | refine q (told_c _) ?_ | refine qd (told_c _) ?_ | refine qz (told_c _) ?_ | refine q (failed_c _) ?_ | refine qd (failed_c _) ?_ | refine qz (failed_c _) ?_ | refine q (flag_c _) ?_ | refine qd (flag_c _) ?_ | refine qz (flag_c _) ?_ | refine qg hi ?_ | refine qgd hi ?_) | (with_reducible refine PCall.db (hr) ?_ ?_ ?_) | (with_reducible refine PCall.db (hf) ?_ ?_ ?_) | (with_reducible refine CallZ.z ?_) | simp -dsimp [go_sem, Cmd.c, Rep.c, toldR, failR, textR, flagN])
    all_goals first | omega | (have h' : l.length = 20 := by (simp at h; omega)
                               simp [h']; done) | (have h' : ¬ l.length = 20 := by (simp at h; omega)
                                                   simp [h']; done)
  · have hc : rankCut l tx = delAt l j := by unfold rankCut; rw [if_neg (by omega), hj]; rfl
    rw [hc] at hf hi hle ⊢
    rw [hj] at hr ⊢
    have hd := delete_api_Score (G := G) (sR l) j (by simpa using hlt) (by simpa using (by omega : l.length ≤ 1000000))
    rw [map_del] at hd
    have w3 : IntKind.i64.wrap ((j : Int) + 1) = (j : Int) + 1 := IntWalk.i64_in _ (by omega)
    have q3 : ((j : Int) < 0) = False := by simp
    have q1 : decide ((j : Int) < 0) = false := by simp
    have q2 : decide (0 ≤ (j : Int)) = true := by simp
    refine gcallc mixed Try.func45 ac_value_ranks ?_
    repeat' (first | (with_reducible first | refine Cn (fun h => ?_) fun h => ?_ | refine And.intro ?_ ?_ | refine wR ?_ | exact wr _ _ | refine wa ?_ | apply awp_join | refine q (told_c _) ?_ | refine qd (told_c _) ?_ | refine qz (told_c _) ?_ | refine q (failed_c _) ?_ | refine qd (failed_c _) ?_ | refine qz (failed_c _) ?_ | refine q (flag_c _) ?_ | refine qd (flag_c _) ?_ | refine qz (flag_c _) ?_ | refine qg hd ?_ | refine qgd hd ?_ | refine qg hi ?_ | refine qgd hi ?_) | (with_reducible refine PCall.db (hr) ?_ ?_ ?_) | (with_reducible refine PCall.db (hf) ?_ ?_ ?_) | (with_reducible refine CallZ.z ?_) | simp -dsimp [go_sem, w3, q1, q2, q3, false_and, if_false, Cmd.c, Rep.c, toldR, failR, textR, flagN])
    all_goals first | omega
theorem ranks16_c (k n : Int) (t : ByteArray) (l : List Sc) (ps its : List (List V)) (c : Cmd) (hk : c.kind = 16) (hl : l.length ≤ 1000) (h1 : ∀ (j : Nat) a, (rankCut l c.text)[j]? = some a → rankAt (rankCut l c.text) c.text c.n ≤ j → 0 ≤ bS a (c.text, c.n)) :
    DetCall Try.prog G 45 1 (ownHp k t n ps its (sR l)) [.one (.ptr 0 0), .agg c.c] (.agg (ranksV l c).2.c) (ownHp k t n ps its (sR (ranksV l c).1)) := by
  have hcl : (rankCut l c.text).length ≤ 1000 := by
    unfold rankCut
    split
    · exact hl
    · unfold delAt; simp; omega
  have hf := bsearch_api_Score (G := G) 33 bS (rankCut l c.text) (c.text, c.n) (rankAt (rankCut l c.text) c.text c.n) (by omega) en33 byScore_c (plc_le _ _) (fun j a h1 h2 => by simpa using plc_lt _ _ j a h1 h2) h1
  have hr := rank_c (G := G) c.text l (by omega)
  have hle := plc_le (fun a : Sc => decide (bS a (c.text, c.n) < 0)) (rankCut l c.text)
  change rankAt (rankCut l c.text) c.text c.n ≤ _ at hle
  have hi := insert_api_Score (G := G) (sR (rankCut l c.text)) (row_api_Score (c.text, c.n)) (rankAt (rankCut l c.text) c.text c.n) rfl (by simpa using hle) (by simpa using (by omega : (rankCut l c.text).length ≤ 1000000))
  rw [map_ins] at hi
  obtain ⟨kk, key, f, tx, cn⟩ := c
  simp only at hk h1 hf hi hr hle hcl
  subst hk
  unfold ranksV
  simp only
  generalize at_api_Score bS (rankCut l tx) (tx, cn) (rankAt (rankCut l tx) tx cn) = b at *
  generalize rankAt (rankCut l tx) tx cn = a at *
  rcases rankOf_cases l tx with hn | ⟨j, hj, hlt⟩
  · have hc : rankCut l tx = l := by unfold rankCut; rw [if_pos (by omega)]
    rw [hc] at hf hi hle ⊢
    rw [hn] at hr ⊢
    refine gcallc mixed Try.func45 ac_value_ranks ?_
    repeat' (first | (with_reducible first | refine Cn (fun h => ?_) fun h => ?_ | refine And.intro ?_ ?_ | refine wR ?_ | exact wr _ _ | refine wa ?_ | apply awp_join | refine q (told_c _) ?_ | refine qd (told_c _) ?_ | refine qz (told_c _) ?_ | refine q (failed_c _) ?_ | refine qd (failed_c _) ?_ | refine qz (failed_c _) ?_ | refine q (flag_c _) ?_ | refine qd (flag_c _) ?_ | refine qz (flag_c _) ?_ | refine qg hi ?_ | refine qgd hi ?_) | (with_reducible refine PCall.db (hr) ?_ ?_ ?_) | (with_reducible refine PCall.db (hf) ?_ ?_ ?_) | (with_reducible refine CallZ.z ?_) | simp -dsimp [go_sem, Cmd.c, Rep.c, toldR, failR, textR, flagN])
    all_goals first | omega | (have h' : l.length = 20 := by (simp at h; omega)
                               simp [h']; done) | (have h' : ¬ l.length = 20 := by (simp at h; omega)
                                                   simp [h']; done)
  · have hc : rankCut l tx = delAt l j := by unfold rankCut; rw [if_neg (by omega), hj]; rfl
    rw [hc] at hf hi hle ⊢
    rw [hj] at hr ⊢
    have hd := delete_api_Score (G := G) (sR l) j (by simpa using hlt) (by simpa using (by omega : l.length ≤ 1000000))
    rw [map_del] at hd
    have w3 : IntKind.i64.wrap ((j : Int) + 1) = (j : Int) + 1 := IntWalk.i64_in _ (by omega)
    have q3 : ((j : Int) < 0) = False := by simp
    have q1 : decide ((j : Int) < 0) = false := by simp
    have q2 : decide (0 ≤ (j : Int)) = true := by simp
    refine gcallc mixed Try.func45 ac_value_ranks ?_
    repeat' (first | (with_reducible first | refine Cn (fun h => ?_) fun h => ?_ | refine And.intro ?_ ?_ | refine wR ?_ | exact wr _ _ | refine wa ?_ | apply awp_join | refine q (told_c _) ?_ | refine qd (told_c _) ?_ | refine qz (told_c _) ?_ | refine q (failed_c _) ?_ | refine qd (failed_c _) ?_ | refine qz (failed_c _) ?_ | refine q (flag_c _) ?_ | refine qd (flag_c _) ?_ | refine qz (flag_c _) ?_ | refine qg hd ?_ | refine qgd hd ?_ | refine qg hi ?_ | refine qgd hi ?_) | (with_reducible refine PCall.db (hr) ?_ ?_ ?_) | (with_reducible refine PCall.db (hf) ?_ ?_ ?_) | (with_reducible refine CallZ.z ?_) | simp -dsimp [go_sem, w3, q1, q2, q3, false_and, if_false, Cmd.c, Rep.c, toldR, failR, textR, flagN])
    all_goals first | omega
end Go.Proofs.Ytcfpphadlgbfdaa
