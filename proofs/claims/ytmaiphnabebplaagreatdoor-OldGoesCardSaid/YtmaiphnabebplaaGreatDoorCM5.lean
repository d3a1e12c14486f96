/- OldGoes: the walk. -/
import Derived.Test.YtmaiphnabebplaaGreatDoorCL7
import Derived.Test.YtmaiphnabebplaaGreatDoorCN2
set_option linter.unusedVariables false
set_option linter.unusedSimpArgs false
set_option maxRecDepth 100000
set_option maxHeartbeats 8000000
namespace Go.Proofs.YtmaiphnabebplaaGreatDoor
open Go Go.RowKit Go.Proofs.AE
abbrev ac_rostrumkeep_OldGoes := CC.of Tryz.f7 [(13, [([0, 1, 2, 3, 4, 5, 6, 7, 8, 9, 10, 11, 12, 13, 14, 15, 16], [])]), (23, [([0, 1, 2, 3, 4, 5, 6, 7, 8, 9, 10, 11, 12, 13, 14, 15, 16, 17, 18, 19, 20, 21, 22, 23, 24, 25, 26, 27, 28, 29, 30, 31, 32], [])])]
variable {G : Nat → AV}
theorem any_take {α : Type} (p : α → Bool) {l : List α} {k : Nat} {a : α} (h : l[k]? = some a) : (l.take (k + 1)).any p = ((l.take k).any p || p a) := by
  rw [List.take_add_one, h, Option.toList_some, List.any_append]
  simp
theorem oldGoes_c (hG : Noth G) (l : List Deed) (hl : ∀ x ∈ l, x.Ok) (hll : (l.length : Int) ≤ 9223372036854775807) (hz : (l.length : Int) * 72 ≤ 140737488351232) : PCall Tryz.prog G 7 [.one (.v (.sl (l.map Deed.row)))] (bV true) := by
  have hl' : ∀ x ∈ z4 ++ l, x.Ok := fun x hx => by
    rcases List.mem_append.1 hx with hx | hx
    · simp only [z4, List.mem_cons, List.not_mem_nil, or_false, or_self] at hx; subst hx; exact zD_ok
    · exact hl x hx
  have hmk := machineK_c hG (z4 ++ l) hl' (by rw [List.length_append]; simp [z4]; omega)
  obtain ⟨hi, hnow⟩ := machV_inv (z4 ++ l) hl'
  have h4 := mach_four l hl
  generalize machV (z4 ++ l) = m at *
  obtain ⟨f1, f2, f3⟩ := (show m.sto.Small ∧ m.clis.length ≤ 1000000 ∧ True from ⟨hi.ok.sto.small, by omega, trivial⟩)
  have h1 := doM_c hG m m.sto.now openC f1 f2
  rw [do_open hi.ok] at h1
  have x2 := hi.next
  obtain ⟨L, _, _, e1, _, hL4⟩ := openM_last hi.ok (by omega)
  obtain ⟨hL, hLl⟩ := hL4 h4
  rw [e1] at h1
  have hrise := hi.ok.rise
  have hids : ∀ (i : Nat) x, m.clis[i]? = some x → x.id < m.next := fun i x hx => (hi.ok.all x (List.mem_of_getElem? hx)).id.2
  obtain ⟨y0, hy0⟩ : ∃ y, m.clis[0]? = some y := ⟨_, List.getElem?_eq_getElem (by omega)⟩
  obtain ⟨O, w, hO, hw, hspec⟩ := oldest_spec m.clis m.clis 0 0 y0 rfl hy0 (Nat.le_refl _) (fun k z hk => absurd hk (Nat.not_lt_zero _))
  rw [hO] at hL
  have hOl := (List.getElem?_eq_some_iff.1 hw).1
  have hany : ∀ (i : Nat) (x : Cli), m.clis[i]? = some x → ((L ++ [(⟨m.next, 0, m.sto.now, toldR 0⟩ : Cli)]).any fun z => z.id == x.id) = decide (i ≠ O) := fun i x hx => by
    rw [hL]; exact del_any hrise hx (hids i x hx) rfl
  have hXl : (L ++ [(⟨m.next, 0, m.sto.now, toldR 0⟩ : Cli)]).length = 4 := by rw [List.length_append, hLl]; rfl
  generalize L ++ [(⟨m.next, 0, m.sto.now, toldR 0⟩ : Cli)] = X at *
  have hrow : (z4 ++ l).map Deed.row = zD.row :: zD.row :: zD.row :: zD.row :: l.map Deed.row := by simp [z4]
  rw [hrow] at hmk
  have hulD : UL 8 (l.map Deed.row) := fun r hr => by obtain ⟨d, _, rfl⟩ := List.mem_map.1 hr; rfl
  clear e1 hi f1 f2 f3 hL hrise hl' hrow hO hy0 hids
  obtain ⟨⟨mn, me⟩, mx, ml⟩ := m
  obtain ⟨wi, ws, wt, wr⟩ := w
  have hzr : zD.row = [V.lit (.int .i64 0), V.lit (.int .i64 0), V.lit (.int .i64 0), V.lit (.int .i64 0), V.lit (.int .i64 0), V.lit (.int .i64 0), V.lit (.int .i64 0), V.lit (.string ⟨#[]⟩)] := rfl
  rw [hzr] at hmk
  simp only [DmA, Mach.c, Cal.c, Cmd.c, Rep.c, openC, toldR, List.map_nil] at h1 hmk hany hspec hw hOl h4 ⊢
  refine pcallc mixed Tryz.func7 ac_rostrumkeep_OldGoes ?_
  repeat' (first | (with_reducible first | refine Cn (fun h => ?_) fun h => ?_ | refine And.intro ?_ ?_ | refine wR ?_ | exact wr _ _ | refine wa ?_ | apply awp_join | refine q h1 ?_ | refine qd h1 ?_ | refine qz h1 ?_) | (with_reducible refine qcf hmk ?_ ?_) | (with_reducible refine CallZ.z ?_) | simp -dsimp [go_sem, h4])
  all_goals first | omega | exact hulD | skip
  have hg0 : ∀ i : Nat, O < i → (if O < i then (O : Int) else -1) = (O : Int) := fun i h => if_pos h
  have hg1 : ∀ i : Nat, ¬ O < i → (if O < i then (O : Int) else -1) = -1 := fun i h => if_neg h
  refine awp_loop (fun i : Nat => ⟨[(3, .one (.ptr 0 0)), (4, .one (.ptr 1 0)), (6, iV 0), (7, iV (if O < i then (O : Int) else -1)), (8, iV i)], G, [some (.box 32 [iC mn, .v (.sl (eR me)), iC mx, .v (.sl (clR ml))]), some (.box 32 [iC mn, .v (.sl (eR me)), iC (mx + 1), .v (.sl (clR X))])]⟩) (fun i => i ≤ 4) (fun i => 4 - i) 0 (weak_auto ?_) (Nat.zero_le _) ?_
  · simp -dsimp [go_sem]
  · intro i hi
    by_cases hil : i < 4
    · obtain ⟨x, hx⟩ : ∃ x, ml[i]? = some x := ⟨_, List.getElem?_eq_getElem (by omega)⟩
      have e4 : IntKind.i64.wrap ((i : Int) + 1) = (i : Int) + 1 := IntWalk.i64_in _ (by omega)
      have q1 : decide ((i : Int) < 4) = true := by simp <;> omega
      have hax := hany i x hx
      obtain ⟨xi, xs, xt, ⟨xc, xx, xn, xl⟩⟩ := x
      simp only at hax
      obtain ⟨g, hg⟩ : ∃ g : Int, (if O < i then (O : Int) else -1) = g := ⟨_, rfl⟩
      rw [hg]
      repeat' (first | (with_reducible first | refine Cn (fun h => ?_) fun h => ?_ | refine And.intro ?_ ?_ | refine wR ?_ | exact wr _ _ | refine wa ?_ | apply awp_join) | (with_reducible refine CallZ.z ?_) | simp -dsimp [go_sem, h4, q1])
      refine awp_loop (fun k : Nat => ⟨[(3, .one (.ptr 0 0)), (4, .one (.ptr 1 0)), (6, iV 0), (7, iV g), (8, iV i), (9, bV ((X.take k).any fun z => z.id == xi)), (10, iV k)], G, [some (.box 32 [iC mn, .v (.sl (eR me)), iC mx, .v (.sl (clR ml))]), some (.box 32 [iC mn, .v (.sl (eR me)), iC (mx + 1), .v (.sl (clR X))])]⟩) (fun k => k ≤ 4) (fun k => 4 - k) 0 (weak_auto ?_) (Nat.zero_le _) ?_
      · simp -dsimp [go_sem]
      · intro k hk
        by_cases hkl : k < 4
        · obtain ⟨y, hy⟩ : ∃ y, X[k]? = some y := ⟨_, List.getElem?_eq_getElem (by omega)⟩
          have e5 : IntKind.i64.wrap ((k : Int) + 1) = (k : Int) + 1 := IntWalk.i64_in _ (by omega)
          have q2 : decide ((k : Int) < 4) = true := by simp <;> omega
          have hat := any_take (fun z : Cli => z.id == xi) hy
          obtain ⟨yi, ys, yt, ⟨yc, yx, yn, yl⟩⟩ := y
          simp only at hat
          generalize hT : (X.take k).any (fun z => z.id == xi) = T at *
          generalize hT' : (X.take (k + 1)).any (fun z => z.id == xi) = T' at *
          cases T with
          | true =>
            simp only [Bool.true_or] at hat
            subst hat
            repeat' (first | (with_reducible first | refine Cn (fun h => ?_) fun h => ?_ | refine And.intro ?_ ?_ | refine wR ?_ | exact wr _ _ | refine wa ?_ | apply awp_join) | (with_reducible refine CallZ.z ?_) | simp -dsimp [go_sem, hXl, q2, e5])
            all_goals first
              | omega
              | (refine Again.auto (k + 1) ?_ ?_ ?_
                 · simp -dsimp [go_sem, hT']
                 · show k + 1 ≤ 4; omega
                 · show 4 - (k + 1) < 4 - k; omega)
              | trace_state
          | false =>
            simp only [Bool.false_or] at hat
            repeat' (first | (with_reducible first | refine Cn (fun h => ?_) fun h => ?_ | refine And.intro ?_ ?_ | refine wR ?_ | exact wr _ _ | refine wa ?_ | apply awp_join) | (with_reducible refine CallZ.z ?_) | simp -dsimp [go_sem, hXl, q2, e5, hx, hy, Cli.row, ← hat])
            all_goals first
              | omega
              | (refine Again.auto (k + 1) ?_ ?_ ?_
                 · simp -dsimp [go_sem, hT']
                 · show k + 1 ≤ 4; omega
                 · show 4 - (k + 1) < 4 - k; omega)
              | trace_state
        · have q2 : decide ((k : Int) < 4) = false := by simp <;> omega
          have hXt : X.take k = X := List.take_of_length_le (by omega)
          rw [hXt, hax]
          by_cases hiO : i = O
          · subst hiO
            rw [hg1 i (by omega)] at hg
            subst hg
            have q3 : decide (i ≠ i) = false := by simp
            rw [q3]
            repeat' (first | (with_reducible first | refine Cn (fun h => ?_) fun h => ?_ | refine And.intro ?_ ?_ | refine wR ?_ | exact wr _ _ | refine wa ?_ | apply awp_join) | (with_reducible refine CallZ.z ?_) | simp -dsimp [go_sem, hXl, q2, e4])
            all_goals first
              | omega
              | (refine Again.auto (i + 1) ?_ ?_ ?_
                 · simp -dsimp [go_sem]
                 · show i + 1 ≤ 4; omega
                 · show 4 - (i + 1) < 4 - i; omega)
              | trace_state
          · have q3 : decide (i ≠ O) = true := by simpa using hiO
            rw [q3]
            have hg2 : (if O < i + 1 then (O : Int) else -1) = g := by rw [← hg]; by_cases h : O < i; rw [if_pos h, if_pos (by omega)]; rw [if_neg h, if_neg (by omega)]
            repeat' (first | (with_reducible first | refine Cn (fun h => ?_) fun h => ?_ | refine And.intro ?_ ?_ | refine wR ?_ | exact wr _ _ | refine wa ?_ | apply awp_join) | (with_reducible refine CallZ.z ?_) | simp -dsimp [go_sem, hXl, q2, e4])
            all_goals first
              | omega
              | (refine Again.auto (i + 1) ?_ ?_ ?_
                 · simp -dsimp [go_sem, hg2]
                 · show i + 1 ≤ 4; omega
                 · show 4 - (i + 1) < 4 - i; omega)
              | trace_state
    · have q1 : decide ((i : Int) < 4) = false := by simp <;> omega
      have hg := hg0 i (by omega)
      rw [hg]
      have q2 : decide ((O : Int) < 0) = false := by simp
      repeat' (first | (with_reducible first | refine Cn (fun h => ?_) fun h => ?_ | refine And.intro ?_ ?_ | refine wR ?_ | exact wr _ _ | refine wa ?_ | apply awp_join) | (with_reducible refine CallZ.z ?_) | simp -dsimp [go_sem, h4, q1, q2])
      refine awp_loop (fun k : Nat => ⟨[(3, .one (.ptr 0 0)), (6, iV 0), (7, iV O), (11, iV k)], G, [some (.box 32 [iC mn, .v (.sl (eR me)), iC mx, .v (.sl (clR ml))])]⟩) (fun k => k ≤ 4) (fun k => 4 - k) 0 (weak_auto ?_) (Nat.zero_le _) ?_
      · simp -dsimp [go_sem]
      · intro k hk
        by_cases hkl : k < 4
        · obtain ⟨y, hy⟩ : ∃ y, ml[k]? = some y := ⟨_, List.getElem?_eq_getElem (by omega)⟩
          have e5 : IntKind.i64.wrap ((k : Int) + 1) = (k : Int) + 1 := IntWalk.i64_in _ (by omega)
          have q3 : decide ((k : Int) < 4) = true := by simp <;> omega
          obtain ⟨s1, s2⟩ := hspec k y hy
          obtain ⟨yi, ys, yt, ⟨yc, yx, yn, yl⟩⟩ := y
          obtain ⟨vc, vx, vn, vl⟩ := wr
          simp only at s1 s2
          have q4 : decide (yt < wt) = false := by simp; omega
          by_cases hkO : k < O
          · have q5 : decide (k < O) = true := by simpa using hkO
            have q6 : (yt == wt) = false := by rw [beq_eq_false_iff_ne]; have := s2 hkO; omega
            repeat' (first | (with_reducible first | refine Cn (fun h => ?_) fun h => ?_ | refine And.intro ?_ ?_ | refine wR ?_ | exact wr _ _ | refine wa ?_ | apply awp_join) | (with_reducible refine CallZ.z ?_) | simp -dsimp [go_sem, h4, q3, q4, q5, q6, e5, hy, hw, Cli.row])
            all_goals first
              | omega
              | (refine Again.auto (k + 1) ?_ ?_ ?_
                 · simp -dsimp [go_sem]
                 · show k + 1 ≤ 4; omega
                 · show 4 - (k + 1) < 4 - k; omega)
              | trace_state
          · have q5 : decide (k < O) = false := by simpa using hkO
            repeat' (first | (with_reducible first | refine Cn (fun h => ?_) fun h => ?_ | refine And.intro ?_ ?_ | refine wR ?_ | exact wr _ _ | refine wa ?_ | apply awp_join) | (with_reducible refine CallZ.z ?_) | simp -dsimp [go_sem, h4, q3, q4, q5, e5, hy, hw, Cli.row])
            all_goals first
              | omega
              | (refine Again.auto (k + 1) ?_ ?_ ?_
                 · simp -dsimp [go_sem]
                 · show k + 1 ≤ 4; omega
                 · show 4 - (k + 1) < 4 - k; omega)
              | trace_state
        · have q3 : decide ((k : Int) < 4) = false := by simp <;> omega
          repeat' (first | (with_reducible first | refine Cn (fun h => ?_) fun h => ?_ | refine And.intro ?_ ?_ | refine wR ?_ | exact wr _ _ | refine wa ?_ | apply awp_join) | (with_reducible refine CallZ.z ?_) | simp -dsimp [go_sem, h4, q3])
          all_goals trace_state
end Go.Proofs.YtmaiphnabebplaaGreatDoor
