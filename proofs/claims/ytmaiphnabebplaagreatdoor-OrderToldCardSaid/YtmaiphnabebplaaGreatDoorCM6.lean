/- OrderTold: the walk. -/
import Derived.Test.YtmaiphnabebplaaGreatDoorCL8
import Derived.Test.YtmaiphnabebplaaGreatDoorCN1
set_option linter.unusedVariables false
set_option linter.unusedSimpArgs false
set_option maxRecDepth 100000
set_option maxHeartbeats 8000000
namespace Go.Proofs.YtmaiphnabebplaaGreatDoor
open Go Go.RowKit Go.Proofs.AE
abbrev ac_rostrumkeep_OrderTold := CC.of Tryz.f8 [(5, [([0, 1, 2, 3, 4, 5, 6, 7, 8], [(1, 4), (1, 7), (5, 7), (6, 7)]), ([0, 1, 2, 3, 7, 4, 5, 6, 8], [(1, 4), (1, 5), (6, 4), (7, 4)])]), (6, [([0, 1, 2, 3, 4, 5, 6, 7, 8, 9, 10, 11, 12, 13, 14, 15, 16, 17, 18, 19, 20, 21, 22, 23], [(0, 10), (0, 19), (0, 20), (3, 10), (3, 19), (3, 20), (5, 10), (5, 19), (5, 20), (7, 10), (7, 19), (7, 20)]), ([0, 1, 2, 3, 4, 5, 6, 7, 8, 9, 10, 11, 12, 13, 14, 15, 16, 17, 18, 20, 19, 21, 22, 23], [(0, 10), (0, 19), (0, 20), (3, 10), (3, 19), (3, 20), (5, 10), (5, 19), (5, 20), (7, 10), (7, 19), (7, 20)]), ([0, 1, 2, 3, 4, 5, 6, 7, 8, 9, 10, 11, 12, 13, 19, 14, 15, 16, 17, 18, 20, 21, 22, 23], [(0, 10), (0, 14), (0, 20), (3, 10), (3, 14), (3, 20), (5, 10), (5, 14), (5, 20), (7, 10), (7, 14), (7, 20)]), ([0, 1, 2, 3, 4, 5, 6, 7, 8, 9, 10, 11, 12, 13, 19, 20, 14, 15, 16, 17, 18, 21, 22, 23], [(0, 10), (0, 14), (0, 15), (3, 10), (3, 14), (3, 15), (5, 10), (5, 14), (5, 15), (7, 10), (7, 14), (7, 15)]), ([0, 1, 2, 3, 4, 5, 6, 7, 8, 9, 10, 11, 12, 13, 20, 14, 15, 16, 17, 18, 19, 21, 22, 23], [(0, 10), (0, 14), (0, 20), (3, 10), (3, 14), (3, 20), (5, 10), (5, 14), (5, 20), (7, 10), (7, 14), (7, 20)]), ([0, 1, 2, 3, 4, 5, 6, 7, 8, 9, 10, 11, 12, 13, 20, 19, 14, 15, 16, 17, 18, 21, 22, 23], [(0, 10), (0, 14), (0, 15), (3, 10), (3, 14), (3, 15), (5, 10), (5, 14), (5, 15), (7, 10), (7, 14), (7, 15)]), ([0, 1, 2, 3, 4, 5, 6, 7, 8, 9, 12, 19, 10, 11, 13, 14, 15, 16, 17, 18, 20, 21, 22, 23], [(0, 11), (0, 12), (0, 20), (3, 11), (3, 12), (3, 20), (5, 11), (5, 12), (5, 20), (7, 11), (7, 12), (7, 20)]), ([0, 1, 2, 3, 4, 5, 6, 7, 8, 9, 12, 19, 10, 11, 13, 20, 14, 15, 16, 17, 18, 21, 22, 23], [(0, 11), (0, 12), (0, 15), (3, 11), (3, 12), (3, 15), (5, 11), (5, 12), (5, 15), (7, 11), (7, 12), (7, 15)]), ([0, 1, 2, 3, 4, 5, 6, 7, 8, 9, 12, 19, 20, 10, 11, 13, 14, 15, 16, 17, 18, 21, 22, 23], [(0, 11), (0, 12), (0, 13), (3, 11), (3, 12), (3, 13), (5, 11), (5, 12), (5, 13), (7, 11), (7, 12), (7, 13)]), ([0, 1, 2, 3, 4, 5, 6, 7, 8, 9, 12, 20, 10, 11, 13, 14, 15, 16, 17, 18, 19, 21, 22, 23], [(0, 11), (0, 12), (0, 20), (3, 11), (3, 12), (3, 20), (5, 11), (5, 12), (5, 20), (7, 11), (7, 12), (7, 20)]), ([0, 1, 2, 3, 4, 5, 6, 7, 8, 9, 12, 20, 10, 11, 13, 19, 14, 15, 16, 17, 18, 21, 22, 23], [(0, 11), (0, 12), (0, 15), (3, 11), (3, 12), (3, 15), (5, 11), (5, 12), (5, 15), (7, 11), (7, 12), (7, 15)]), ([0, 1, 2, 3, 4, 5, 6, 7, 8, 9, 12, 20, 19, 10, 11, 13, 14, 15, 16, 17, 18, 21, 22, 23], [(0, 11), (0, 12), (0, 13), (3, 11), (3, 12), (3, 13), (5, 11), (5, 12), (5, 13), (7, 11), (7, 12), (7, 13)])])]
variable {G : Nat → AV}
theorem orderTold_c (hG : Noth G) (l : List Deed) (n : Int) (hl : ∀ x ∈ l, x.Ok) (hll : (l.length : Int) ≤ 9223372036854775807) (hn : i64 n) : PCall Tryz.prog G 8 [.one (.v (.sl (l.map Deed.row))), iV n] (bV true) := by
  have hmk := openedK_c hG l hl hll
  obtain ⟨hi, _, _⟩ := openedV_inv l hl
  obtain ⟨L, hL, _, _, _⟩ := opened_last hl
  generalize openedV l = m at *
  have hlen : 0 < m.clis.length := by rw [hL]; simp
  have hl4 := hi.ok.len
  clear hL
  have hp := pk_range (n := n) (m := (m.clis.length : Int)) (by omega)
  have hpk := picked_c (G := G) n m.clis.length hn (by omega)
  obtain ⟨j, hj⟩ : ∃ j : Nat, pk n m.clis.length = (j : Int) := ⟨(pk n m.clis.length).toNat, by omega⟩
  rw [hj] at hp hpk
  obtain ⟨x, hx⟩ : ∃ x, m.clis[j]? = some x := ⟨_, List.getElem?_eq_getElem (by omega)⟩
  have ho := hi.ok.all x (List.mem_of_getElem? hx)
  have hsq := hi.seq x (List.mem_of_getElem? hx)
  have hnx := hi.next
  have h9 := pk_range (n := n) (m := 9) (by omega)
  have hp9 := picked_c (G := G) n 9 hn (by omega)
  have i1 := ho.id
  have i2 := ho.seq
  obtain ⟨hc, hz⟩ := call_made (c := ⟨x.id, x.seq + 2 + pk n 9, keysC⟩) rfl i1.1 (by omega) (by omega) (by omega) keysC_ok
  have e1 := order_p hi.ok hx hc hz rfl (by show x.seq + 2 + pk n 9 ≠ x.seq; omega) (by show x.seq + 2 + pk n 9 ≠ x.seq + 1; omega)
  obtain ⟨f1, f2, f3⟩ := hi.ok.dom
  have h1 := doM_c hG m m.sto.now ⟨x.id, x.seq + 2 + pk n 9, keysC⟩ f1 f2
  rw [e1] at h1
  have h5 := sameSelf_c (G := G) hi.ok
  have w1 : IntKind.i64.wrap (x.seq + 2) = x.seq + 2 := IntWalk.i64_in _ (by omega)
  have w2 : IntKind.i64.wrap (x.seq + 2 + pk n 9) = x.seq + 2 + pk n 9 := IntWalk.i64_in _ (by omega)
  have w3 : IntKind.i64.wrap (x.seq - 1) = x.seq - 1 := IntWalk.i64_in _ (by omega)
  have q0 : ((m.clis.length : Int) == 0) = false := by rw [beq_eq_false_iff_ne]; omega
  by_cases hb : 1 < x.seq
  · have q1 : decide (1 < x.seq) = true := by simpa using hb
    obtain ⟨hc2, hz2⟩ := call_made (c := ⟨x.id, x.seq - 1, keysC⟩) rfl i1.1 (by omega) (by omega) (by omega) keysC_ok
    have e2 := order_p hi.ok hx hc2 hz2 rfl (by show x.seq - 1 ≠ x.seq; omega) (by show x.seq - 1 ≠ x.seq + 1; omega)
    have h2 := doM_c hG m m.sto.now ⟨x.id, x.seq - 1, keysC⟩ f1 f2
    rw [e2] at h2
    clear e1 e2 hc hc2 f1 f2 f3 ho hi
    generalize pk n 9 = p at *
    obtain ⟨⟨mn, me⟩, mx, ml⟩ := m
    obtain ⟨xi, xs, xt, ⟨xc, xx, xn, xl⟩⟩ := x
    simp only [DmA, Mach.c, Cal.c, Cmd.c, Rep.c, keysC, failR, List.map_nil] at h1 h2 h5 hmk hx hpk hp w1 w2 w3 q0 q1 ⊢
    refine pcallc mixed Tryz.func8 ac_rostrumkeep_OrderTold ?_
    repeat' (first | (with_reducible first | refine Cn (fun h => ?_) fun h => ?_ | refine And.intro ?_ ?_ | refine wR ?_ | exact wr _ _ | refine weak_autoC ?_ | apply awp_join | refine q hmk ?_ | refine qd hmk ?_ | refine qz hmk ?_ | refine q hpk ?_ | refine qd hpk ?_ | refine qz hpk ?_ | refine q hp9 ?_ | refine qd hp9 ?_ | refine qz hp9 ?_ | refine q h1 ?_ | refine qd h1 ?_ | refine qz h1 ?_ | refine q h2 ?_ | refine qd h2 ?_ | refine qz h2 ?_ | refine q h5 ?_ | refine qd h5 ?_ | refine qz h5 ?_) | (with_reducible refine CallZ.z ?_) | simp -dsimp [go_sem, hx, Cli.row, w1, w2, w3, q0, q1, clean_nil, clean_cons, clean_yes, clean_no])
    all_goals first | omega | trace_state
  · have q1 : decide (1 < x.seq) = false := by simpa using hb
    clear e1 hc f1 f2 f3 ho hi
    generalize pk n 9 = p at *
    obtain ⟨⟨mn, me⟩, mx, ml⟩ := m
    obtain ⟨xi, xs, xt, ⟨xc, xx, xn, xl⟩⟩ := x
    simp only [DmA, Mach.c, Cal.c, Cmd.c, Rep.c, keysC, failR, List.map_nil] at h1 h5 hmk hx hpk hp w1 w2 w3 q0 q1 ⊢
    refine pcallc mixed Tryz.func8 ac_rostrumkeep_OrderTold ?_
    repeat' (first | (with_reducible first | refine Cn (fun h => ?_) fun h => ?_ | refine And.intro ?_ ?_ | refine wR ?_ | exact wr _ _ | refine weak_autoC ?_ | apply awp_join | refine q hmk ?_ | refine qd hmk ?_ | refine qz hmk ?_ | refine q hpk ?_ | refine qd hpk ?_ | refine qz hpk ?_ | refine q hp9 ?_ | refine qd hp9 ?_ | refine qz hp9 ?_ | refine q h1 ?_ | refine qd h1 ?_ | refine qz h1 ?_ | refine q h5 ?_ | refine qd h5 ?_ | refine qz h5 ?_) | (with_reducible refine CallZ.z ?_) | simp -dsimp [go_sem, hx, Cli.row, w1, w2, w3, q0, q1, clean_nil, clean_cons, clean_yes, clean_no])
    all_goals first | omega | trace_state
end Go.Proofs.YtmaiphnabebplaaGreatDoor
