/- What commands make of a list and of a set. -/
import Derived.Test.YtcfpphadlgbfdaaJ5
set_option linter.unusedVariables false
set_option linter.unusedSimpArgs false
set_option maxRecDepth 100000
set_option maxHeartbeats 8000000
namespace Go.Proofs.Ytcfpphadlgbfdaa
open Go Go.RowKit Go.Proofs.AE
variable {G : Nat → AV}
/-! ### a list -/
def listV (l : List ByteArray) (c : Cmd) : List ByteArray × Rep :=
  if c.kind ≤ 8 ∧ l.length = 20 then (l, failR 6)
  else if c.kind = 7 then (l ++ [c.text], toldR (l.length + 1))
  else if c.kind = 8 then (c.text :: l, toldR (l.length + 1))
  else if c.kind = 9 then (l.take (l.length - 1), textR (l[l.length - 1]?.getD ⟨#[]⟩))
  else (l.drop 1, textR (l[0]?.getD ⟨#[]⟩))
theorem list7_c (k n : Int) (t : ByteArray) (l : List ByteArray) (ps scs : List (List V)) (c : Cmd) (hk : c.kind = 7) (hl : l.length ≤ 1000) :
    DetCall Try.prog G 43 1 (ownHp k t n ps (strRows l) scs) [.one (.ptr 0 0), .agg c.c] (.agg (listV l c).2.c) (ownHp k t n ps (strRows (listV l c).1) scs) := by
  obtain ⟨kk, key, f, tx, cn⟩ := c
  simp only at hk
  subst hk
  have hul := ul_i l
  have hul1 := ul_i [tx]
  have hd := insert_string (G := G) (strRows l) (row_string tx) 0 rfl (Nat.zero_le _) (by simpa using (by omega : l.length ≤ 1000000))
  have e0 : insAt (strRows l) 0 (row_string tx) = strRows (tx :: l) := by simp [insAt]
  rw [e0] at hd
  have w3 : IntKind.i64.wrap ((l.length : Int) + 1) = (l.length : Int) + 1 := IntWalk.i64_in _ (by omega)
  unfold listV
  simp only
  refine gcallc mixed Try.func43 ac_value_list ?_
  repeat' (first | (with_reducible first | refine Cn (fun h => ?_) fun h => ?_ | refine And.intro ?_ ?_ | refine wR ?_ | exact wr _ _ | refine wa ?_ | apply awp_join | refine q (told_c _) ?_ | refine qd (told_c _) ?_ | refine qz (told_c _) ?_ | refine q (failed_c _) ?_ | refine qd (failed_c _) ?_ | refine qz (failed_c _) ?_ | refine qg hd ?_ | refine qgd hd ?_) | (with_reducible refine CallZ.z ?_) | simp -dsimp [go_sem, w3, Cmd.c, Rep.c, toldR, failR, textR])
  all_goals first | omega | assumption | (have h' : l.length = 20 := by (simp at h; omega)
                                          simp [h']; done) | (have h' : ¬ l.length = 20 := by (simp at h; omega)
                                                              simp [h']; done)
theorem list8_c (k n : Int) (t : ByteArray) (l : List ByteArray) (ps scs : List (List V)) (c : Cmd) (hk : c.kind = 8) (hl : l.length ≤ 1000) :
    DetCall Try.prog G 43 1 (ownHp k t n ps (strRows l) scs) [.one (.ptr 0 0), .agg c.c] (.agg (listV l c).2.c) (ownHp k t n ps (strRows (listV l c).1) scs) := by
  obtain ⟨kk, key, f, tx, cn⟩ := c
  simp only at hk
  subst hk
  have hul := ul_i l
  have hul1 := ul_i [tx]
  have hd := insert_string (G := G) (strRows l) (row_string tx) 0 rfl (Nat.zero_le _) (by simpa using (by omega : l.length ≤ 1000000))
  have e0 : insAt (strRows l) 0 (row_string tx) = strRows (tx :: l) := by simp [insAt]
  rw [e0] at hd
  have w3 : IntKind.i64.wrap ((l.length : Int) + 1) = (l.length : Int) + 1 := IntWalk.i64_in _ (by omega)
  unfold listV
  simp only
  refine gcallc mixed Try.func43 ac_value_list ?_
  repeat' (first | (with_reducible first | refine Cn (fun h => ?_) fun h => ?_ | refine And.intro ?_ ?_ | refine wR ?_ | exact wr _ _ | refine wa ?_ | apply awp_join | refine q (told_c _) ?_ | refine qd (told_c _) ?_ | refine qz (told_c _) ?_ | refine q (failed_c _) ?_ | refine qd (failed_c _) ?_ | refine qz (failed_c _) ?_ | refine qg hd ?_ | refine qgd hd ?_) | (with_reducible refine CallZ.z ?_) | simp -dsimp [go_sem, w3, Cmd.c, Rep.c, toldR, failR, textR])
  all_goals first | omega | assumption | (have h' : l.length = 20 := by (simp at h; omega)
                                          simp [h']; done) | (have h' : ¬ l.length = 20 := by (simp at h; omega)
                                                              simp [h']; done)
/-- A value's box, as plain data. -/
abbrev plainHp (k : Int) (t : ByteArray) (n : Int) (p i s : List (List V)) : Hp := [some (.box 27 [iC k, sC t, iC n, .v (.sl p), .v (.sl i), .v (.sl s)])]
theorem list9_c (k n : Int) (t : ByteArray) (l : List ByteArray) (ps scs : List (List V)) (c : Cmd) (hk : c.kind = 9) (hl : l.length ≤ 1000) (h0 : 0 < l.length) :
    DetCall Try.prog G 43 1 (plainHp k t n ps (strRows l) scs) [.one (.ptr 0 0), .agg c.c] (.agg (listV l c).2.c) (plainHp k t n ps (strRows (listV l c).1) scs) := by
  obtain ⟨kk, key, f, tx, cn⟩ := c
  simp only at hk
  subst hk
  have hul := ul_i l
  obtain ⟨a, ha⟩ : ∃ a, l[0]? = some a := ⟨_, List.getElem?_eq_getElem h0⟩
  obtain ⟨b, hb⟩ : ∃ b, l[l.length - 1]? = some b := ⟨_, List.getElem?_eq_getElem (by omega)⟩
  have w3 : IntKind.i64.wrap ((l.length : Int) - 1) = (l.length : Int) - 1 := IntWalk.i64_in _ (by omega)
  have w4 : ((l.length : Int) - 1).toNat = l.length - 1 := by omega
  unfold listV
  simp only
  refine gcallc mixed Try.func43 ac_value_list ?_
  repeat' (first | (with_reducible first | refine Cn (fun h => ?_) fun h => ?_ | refine And.intro ?_ ?_ | refine wR ?_ | exact wr _ _ | refine wa ?_ | apply awp_join | refine q (told_c _) ?_ | refine qd (told_c _) ?_ | refine qz (told_c _) ?_ | refine q (failed_c _) ?_ | refine qd (failed_c _) ?_ | refine qz (failed_c _) ?_) | (with_reducible refine CallZ.z ?_) | simp -dsimp [go_sem, w3, w4, ha, hb, ← List.map_take, ← List.map_drop, Cmd.c, Rep.c, toldR, failR, textR])
  all_goals first | omega | assumption
theorem list10_c (k n : Int) (t : ByteArray) (l : List ByteArray) (ps scs : List (List V)) (c : Cmd) (hk : c.kind = 10) (hl : l.length ≤ 1000) (h0 : 0 < l.length) :
    DetCall Try.prog G 43 1 (plainHp k t n ps (strRows l) scs) [.one (.ptr 0 0), .agg c.c] (.agg (listV l c).2.c) (plainHp k t n ps (strRows (listV l c).1) scs) := by
  obtain ⟨kk, key, f, tx, cn⟩ := c
  simp only at hk
  subst hk
  have hul := ul_i l
  obtain ⟨a, ha⟩ : ∃ a, l[0]? = some a := ⟨_, List.getElem?_eq_getElem h0⟩
  obtain ⟨b, hb⟩ : ∃ b, l[l.length - 1]? = some b := ⟨_, List.getElem?_eq_getElem (by omega)⟩
  have w3 : IntKind.i64.wrap ((l.length : Int) - 1) = (l.length : Int) - 1 := IntWalk.i64_in _ (by omega)
  have w4 : ((l.length : Int) - 1).toNat = l.length - 1 := by omega
  unfold listV
  simp only
  refine gcallc mixed Try.func43 ac_value_list ?_
  repeat' (first | (with_reducible first | refine Cn (fun h => ?_) fun h => ?_ | refine And.intro ?_ ?_ | refine wR ?_ | exact wr _ _ | refine wa ?_ | apply awp_join | refine q (told_c _) ?_ | refine qd (told_c _) ?_ | refine qz (told_c _) ?_ | refine q (failed_c _) ?_ | refine qd (failed_c _) ?_ | refine qz (failed_c _) ?_) | (with_reducible refine CallZ.z ?_) | simp -dsimp [go_sem, w3, w4, ha, hb, ← List.map_take, ← List.map_drop, Cmd.c, Rep.c, toldR, failR, textR])
  all_goals first | omega | assumption
end Go.Proofs.Ytcfpphadlgbfdaa
