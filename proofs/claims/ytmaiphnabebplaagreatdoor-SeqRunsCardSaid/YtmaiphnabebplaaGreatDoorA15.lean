/- What the keep's helpers for stores answer. -/
import Derived.Test.YtmaiphnabebplaaGreatDoorA14
set_option linter.unusedVariables false
set_option linter.unusedSimpArgs false
set_option maxRecDepth 100000
set_option maxHeartbeats 8000000
namespace Go.Proofs.YtmaiphnabebplaaGreatDoor
open Go Go.RowKit Go.Proofs.AE
variable {G : Nat → AV}
instance : DecidableEq Ent := fun a b => decidable_of_iff (a.key = b.key ∧ a.val = b.val ∧ a.till = b.till) (by cases a; cases b; simp)
instance : DecidableEq Sto := fun a b => decidable_of_iff (a.now = b.now ∧ a.ents = b.ents) (by cases a; cases b; simp)
/-- A frame without its stale cells. -/
def cleanF : List Nat → List (Nat × AV) → List (Nat × AV)
  | _, [] => []
  | seen, (t, v) :: r => bif memB t seen then cleanF seen r else (t, v) :: cleanF (t :: seen) r
theorem getF_cleanF : ∀ (fr : List (Nat × AV)) (seen : List Nat) (t : Nat), t ∉ seen → getF (cleanF seen fr) t = getF fr t
  | [], _, _, _ => rfl
  | (u, v) :: r, seen, t, h => by
    unfold cleanF
    cases hm : memB u seen with
    | true =>
      have hu : u ∈ seen := memB_iff.1 hm
      have hne : u ≠ t := fun e => h (e ▸ hu)
      simp only [cond_true]
      rw [getF_cleanF r seen t h]
      simp only [getF, hne, if_false]
    | false =>
      simp only [cond_false, getF]
      by_cases e : u = t
      · simp [e]
      · simp only [e, if_false]
        exact getF_cleanF r (u :: seen) t (by simp only [List.mem_cons, not_or]; exact ⟨fun h => e h.symm, h⟩)
theorem clean_nil (seen : List Nat) : cleanF seen [] = [] := rfl
def cleanS (b : Bool) (seen : List Nat) (t : Nat) (v : AV) (r : List (Nat × AV)) : List (Nat × AV) := bif b then cleanF seen r else (t, v) :: cleanF (t :: seen) r
theorem clean_cons {seen : List Nat} {t : Nat} {v : AV} {r : List (Nat × AV)} : cleanF seen ((t, v) :: r) = cleanS (memB t seen) seen t v r := rfl
theorem clean_yes {seen : List Nat} {t : Nat} {v : AV} {r : List (Nat × AV)} : cleanS true seen t v r = cleanF seen r := rfl
theorem clean_no {seen : List Nat} {t : Nat} {v : AV} {r : List (Nat × AV)} : cleanS false seen t v r = (t, v) :: cleanF (t :: seen) r := rfl
theorem weak_autoC {k : Nat} {s s' : S} (h : WA k s ⟨cleanF [] s'.fr, s'.gl, s'.hp⟩) : Weak k s s' := by
  refine Weak.trans (weak_auto h) ⟨rfl, fun n w ok μ a hst => ⟨ok, μ, ⟨hst.hr, hst.size, hst.defers, fun t => ?_, hst.gl⟩, (Go.Proofs.AE.Step.refl hst.hr).far⟩⟩
  have := hst.fr t
  rw [getF_cleanF _ _ _ (by simp)] at this
  exact this
def entO (x : Option Ent) : Ent := x.getD ⟨⟨#[]⟩, zeroV, 0⟩
theorem sameStore_c (a b : Sto) (ha : a.Small) : PCall Tryz.prog G 22 [.agg a.c, .agg b.c] (bV (decide (a = b))) := by
  obtain ⟨n, l⟩ := a
  obtain ⟨n', l'⟩ := b
  obtain ⟨s1, s2⟩ := ha
  simp only at s1 s2
  simp only [Sto.c]
  by_cases hk : n = n' ∧ l.length = l'.length
  · obtain ⟨rfl, hll⟩ := hk
    have hd : decide (Sto.mk n l = Sto.mk n l') = decide (l = l') := by simp
    rw [hd]
    have q0 : ((l.length : Int) == l'.length) = true := by rw [beq_iff_eq]; omega
    refine pcallc mixed Tryz.func22 ac_rostrumkeep_sameStore ?_
    repeat' (first | (with_reducible first | refine Cn (fun h => ?_) fun h => ?_ | refine And.intro ?_ ?_ | refine wR ?_ | exact wr _ _ | refine wa ?_ | apply awp_join) | (with_reducible refine CallZ.z ?_) | simp -dsimp [go_sem, q0, hll])
    refine awp_loop (fun i : Nat => ⟨[(2, .one (.ptr 0 0)), (3, .one (.ptr 1 0)), (5, iV i)], G, [some (.box 29 [iC n, .v (.sl (eR l))]), some (.box 29 [iC n, .v (.sl (eR l'))])]⟩) (fun i => i ≤ l.length ∧ l.take i = l'.take i) (fun i => l.length - i) 0 (weak_auto ?_) ⟨Nat.zero_le _, rfl⟩ ?_
    · simp -dsimp [go_sem]
    · rintro i ⟨hi, hx⟩
      by_cases hlt : i < l.length
      · obtain ⟨x, hxa⟩ : ∃ x, l[i]? = some x := ⟨_, List.getElem?_eq_getElem hlt⟩
        obtain ⟨y, hyb⟩ : ∃ y, l'[i]? = some y := ⟨_, List.getElem?_eq_getElem (by omega)⟩
        have e4 : IntKind.i64.wrap ((i : Int) + 1) = (i : Int) + 1 := IntWalk.i64_in _ (by omega)
        have q1 : decide (i < l.length) = true := by simpa using hlt
        have hsv := sameValue_c (G := G) x.val y.val (s2 x (List.mem_of_getElem? hxa))
        by_cases hxy : x = y
        · subst hxy
          have hag := take_same hx hxa hyb rfl
          obtain ⟨key, ⟨vk, vt, vn, vp, vi, vs⟩, till⟩ := x
          simp only [Val.c, decide_true] at hsv
          repeat' (first | (with_reducible first | refine Cn (fun h => ?_) fun h => ?_ | refine And.intro ?_ ?_ | refine wR ?_ | exact wr _ _ | refine wa ?_ | apply awp_join | refine q hsv ?_ | refine qd hsv ?_ | refine qz hsv ?_) | (with_reducible refine CallZ.z ?_) | simp -dsimp [go_sem, hxa, hyb, Ent.row, e4, q1])
          all_goals first
            | omega
            | (refine Again.auto (i + 1) ?_ ⟨hlt, hag⟩ ?_
               · simp -dsimp [go_sem]
               · show l.length - (i + 1) < l.length - i; omega)
        · have hne : ¬ l = l' := fun e => by subst e; rw [hxa] at hyb; exact hxy (Option.some.inj hyb)
          have hd : decide (l = l') = false := by simpa using hne
          rw [hd]
          obtain ⟨bb, hbb⟩ : ∃ bb, decide (x.val = y.val) = bb := ⟨_, rfl⟩
          have hor : decide (x.key = y.key) = false ∨ (x.till == y.till) = false ∨ bb = false := by
            by_cases h1 : x.key = y.key
            · by_cases h2 : x.till = y.till
              · by_cases h3 : x.val = y.val
                · exfalso; apply hxy; cases x; cases y; simp at h1 h2 h3; subst h1; subst h2; subst h3; rfl
                · exact .inr (.inr (by rw [← hbb]; simpa using h3))
              · exact .inr (.inl (by simpa using h2))
            · exact .inl (by simpa using h1)
          rw [hbb] at hsv
          obtain ⟨key, ⟨vk, vt, vn, vp, vi, vs⟩, till⟩ := x
          obtain ⟨key', ⟨vk', vt', vn', vp', vi', vs'⟩, till'⟩ := y
          simp only at hor
          simp only [Val.c] at hsv
          rcases hor with h | h | h
          · repeat' (first | (with_reducible first | refine Cn (fun h => ?_) fun h => ?_ | refine And.intro ?_ ?_ | refine wR ?_ | exact wr _ _ | refine wa ?_ | apply awp_join | refine q hsv ?_ | refine qd hsv ?_ | refine qz hsv ?_) | (with_reducible refine CallZ.z ?_) | simp -dsimp [go_sem, hxa, hyb, Ent.row, e4, q1, h])
            all_goals first | omega | simp_all
          · repeat' (first | (with_reducible first | refine Cn (fun h => ?_) fun h => ?_ | refine And.intro ?_ ?_ | refine wR ?_ | exact wr _ _ | refine wa ?_ | apply awp_join | refine q hsv ?_ | refine qd hsv ?_ | refine qz hsv ?_) | (with_reducible refine CallZ.z ?_) | simp -dsimp [go_sem, hxa, hyb, Ent.row, e4, q1, h])
            all_goals first | omega | simp_all
          · subst h
            repeat' (first | (with_reducible first | refine Cn (fun h => ?_) fun h => ?_ | refine And.intro ?_ ?_ | refine wR ?_ | exact wr _ _ | refine wa ?_ | apply awp_join | refine q hsv ?_ | refine qd hsv ?_ | refine qz hsv ?_) | (with_reducible refine CallZ.z ?_) | simp -dsimp [go_sem, hxa, hyb, Ent.row, e4, q1])
            all_goals omega
      · have q1 : decide (i < l.length) = false := by simpa using hlt
        have hab : l = l' := by
          rw [List.take_of_length_le (by omega), List.take_of_length_le (by omega)] at hx
          exact hx
        have hd : decide (l = l') = true := by simpa using hab
        rw [hd]
        repeat' (first | (with_reducible first | refine Cn (fun h => ?_) fun h => ?_ | refine And.intro ?_ ?_ | refine wR ?_ | exact wr _ _ | refine wa ?_ | apply awp_join) | (with_reducible refine CallZ.z ?_) | simp -dsimp [go_sem, q1])
  · have hd : decide (Sto.mk n l = Sto.mk n' l') = false := by
      simp only [decide_eq_false_iff_not]
      intro h
      cases h
      exact hk ⟨rfl, rfl⟩
    rw [hd]
    by_cases hn : n = n'
    · subst hn
      have q0 : ((l.length : Int) == l'.length) = false := by rw [beq_eq_false_iff_ne]; intro h; exact hk ⟨rfl, by omega⟩
      refine pcallc mixed Tryz.func22 ac_rostrumkeep_sameStore ?_
      repeat' (first | (with_reducible first | refine Cn (fun h => ?_) fun h => ?_ | refine And.intro ?_ ?_ | refine wR ?_ | exact wr _ _ | refine wa ?_ | apply awp_join) | (with_reducible refine CallZ.z ?_) | simp -dsimp [go_sem, q0])
      all_goals (exfalso; simp at *; omega)
    · have q0 : (n == n') = false := by simpa using hn
      refine pcallc mixed Tryz.func22 ac_rostrumkeep_sameStore ?_
      repeat' (first | (with_reducible first | refine Cn (fun h => ?_) fun h => ?_ | refine And.intro ?_ ?_ | refine wR ?_ | exact wr _ _ | refine wa ?_ | apply awp_join) | (with_reducible refine CallZ.z ?_) | simp -dsimp [go_sem, q0])
      all_goals (exfalso; simp at *; omega)
end Go.Proofs.YtmaiphnabebplaaGreatDoor
