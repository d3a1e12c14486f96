/- OpenIds: the walk. -/
import Derived.Test.YtmaiphnabebplaaGreatDoorCL8
import Derived.Test.YtmaiphnabebplaaGreatDoorCN1
set_option linter.unusedVariables false
set_option linter.unusedSimpArgs false
set_option maxRecDepth 100000
set_option maxHeartbeats 8000000
namespace Go.Proofs.YtmaiphnabebplaaGreatDoor
open Go Go.RowKit Go.Proofs.AE
abbrev ac_rostrumkeep_OpenIds := CC.of Tryz.f5 [(6, [([0, 1, 2, 3, 4, 5, 6, 7, 8], [])]), (10, [([0, 1, 2, 3, 4, 5, 6, 7, 8, 9, 10, 11, 12, 13, 14, 15, 16, 17, 18, 19, 20, 21, 22, 23, 24, 25, 26, 27, 28, 29, 30, 31, 32, 33, 34, 35, 36, 37, 38, 39, 40, 41, 42, 43, 44, 45, 46, 47, 48, 49], [])])]
variable {G : Nat → AV}
theorem openIds_c (hG : Noth G) (l : List Deed) (hl : ∀ x ∈ l, x.Ok) (hll : (l.length : Int) ≤ 9223372036854775807) : PCall Tryz.prog G 5 [.one (.v (.sl (l.map Deed.row)))] (bV true) := by
  have hmk := machineK_c hG l hl hll
  obtain ⟨hi, hnow⟩ := machV_inv l hl
  generalize machV l = m at *
  have x1 := hi.ok.next
  have x2 := hi.next
  obtain ⟨f1, f2, f3⟩ := hi.ok.dom
  have hids : ∀ x ∈ m.clis, x.id < m.next := fun x hx => (hi.ok.all x hx).id.2
  have hml := hi.ok.len
  have h1 := doM_c hG m m.sto.now openC f1 f2
  rw [do_open hi.ok] at h1
  obtain ⟨o1, _⟩ := open_ok hi.ok
  obtain ⟨L, _, hL, e1, _⟩ := openM_last hi.ok (by omega)
  rw [e1] at h1 o1
  simp only at h1 o1
  obtain ⟨g1, g2, _⟩ := o1.dom
  have h2 := doM_c hG _ m.sto.now openC g1 g2
  have e0 := do_open o1
  simp only at e0
  rw [e0] at h2
  obtain ⟨L', _, hL', e2, _⟩ := openM_last o1 (by show m.next + 1 ≤ _; omega)
  rw [e2] at h2
  simp only at h2
  clear e0 e1 e2 o1 g1 g2 f1 f2 f3 hi
  have w1 : IntKind.i64.wrap (m.next + 1) = m.next + 1 := IntWalk.i64_in _ (by omega)
  have hlen : (L' ++ [(⟨m.next + 1, 0, m.sto.now, toldR 0⟩ : Cli)]).length = L'.length + 1 := by simp
  have hget : (L' ++ [(⟨m.next + 1, 0, m.sto.now, toldR 0⟩ : Cli)])[L'.length]? = some ⟨m.next + 1, 0, m.sto.now, toldR 0⟩ := last_get
  have w2 : IntKind.i64.wrap ((L'.length : Int) + 1 - 1) = (L'.length : Int) := by rw [IntWalk.i64_in _ (by omega)]; omega
  have w3 : IntKind.i64.wrap (L'.length : Int) = (L'.length : Int) := IntWalk.i64_in _ (by omega)
  generalize L ++ [(⟨m.next, 0, m.sto.now, toldR 0⟩ : Cli)] = K at *
  generalize L' ++ [(⟨m.next + 1, 0, m.sto.now, toldR 0⟩ : Cli)] = K' at *
  generalize L'.length = j at *
  obtain ⟨⟨mn, me⟩, mx, ml⟩ := m
  simp only [DmA, Mach.c, Cal.c, Cmd.c, Rep.c, openC, toldR, List.map_nil] at h1 h2 hmk hids hml hget w1 x1 x2 ⊢
  have q3 : decide ((4 : Int) < (j : Int) + 1) = false := by simp <;> omega
  have q4 : decide ((j : Int) + 1 ≤ 4) = true := by simp <;> omega
  have q5 : decide ((0 : Int) < (j : Int) + 1) = true := by simp <;> omega
  refine pcallc mixed Tryz.func5 ac_rostrumkeep_OpenIds ?_
  repeat' (first | (with_reducible first | refine Cn (fun h => ?_) fun h => ?_ | refine And.intro ?_ ?_ | refine wR ?_ | exact wr _ _ | refine wa ?_ | apply awp_join | refine q hmk ?_ | refine qd hmk ?_ | refine qz hmk ?_ | refine q h1 ?_ | refine qd h1 ?_ | refine qz h1 ?_) | (with_reducible refine CallZ.z ?_) | simp -dsimp [go_sem])
  refine awp_loop (fun i : Nat => ⟨[(3, .one (.ptr 0 0)), (4, .one (.ptr 1 0)), (5, .one (.ptr 2 0)), (6, iV 0), (7, iV i)], G, [some (.box 32 [iC mn, .v (.sl (eR me)), iC mx, .v (.sl (clR ml))]), some (.box 32 [iC mn, .v (.sl (eR me)), iC (mx + 1), .v (.sl (clR K))]), some (.box 37 [iC 0, sC ⟨#[]⟩, iC mx, .v (.sl [])])]⟩) (fun i => i ≤ ml.length) (fun i => ml.length - i) 0 (weak_auto ?_) (Nat.zero_le _) ?_
  · simp -dsimp [go_sem]
  · intro i hi
    by_cases hil : i < ml.length
    · obtain ⟨x, hx⟩ : ∃ x, ml[i]? = some x := ⟨_, List.getElem?_eq_getElem hil⟩
      have e4 : IntKind.i64.wrap ((i : Int) + 1) = (i : Int) + 1 := IntWalk.i64_in _ (by omega)
      have q1 : decide (i < ml.length) = true := by simpa using hil
      have hxi := hids x (List.mem_of_getElem? hx)
      obtain ⟨xi, xs, xt, ⟨xc, xx, xn, xl⟩⟩ := x
      simp only at hxi
      have q2 : decide (mx ≤ xi) = false := by simp; omega
      repeat' (first | (with_reducible first | refine Cn (fun h => ?_) fun h => ?_ | refine And.intro ?_ ?_ | refine wR ?_ | exact wr _ _ | refine wa ?_ | apply awp_join) | (with_reducible refine CallZ.z ?_) | simp -dsimp [go_sem, hx, Cli.row, e4, q1, q2])
      all_goals first
        | omega
        | (refine Again.auto (i + 1) ?_ ?_ ?_
           · simp -dsimp [go_sem]
           · exact hil
           · show ml.length - (i + 1) < ml.length - i; omega)
        | trace_state
    · have q1 : decide (i < ml.length) = false := by simpa using hil
      repeat' (first | (with_reducible first | refine Cn (fun h => ?_) fun h => ?_ | refine And.intro ?_ ?_ | refine wR ?_ | exact wr _ _ | refine weak_autoC ?_ | apply awp_join | refine q h2 ?_ | refine qd h2 ?_ | refine qz h2 ?_) | (with_reducible refine CallZ.z ?_) | simp -dsimp [go_sem, q1, hlen, hget, Cli.row, w1, w2, w3, q3, q4, q5, clean_nil, clean_cons, clean_yes, clean_no])
      all_goals first | omega | (exfalso; have := (List.getElem?_eq_some_iff.1 hget).2; simp [this] at h; done) | trace_state
end Go.Proofs.YtmaiphnabebplaaGreatDoor
