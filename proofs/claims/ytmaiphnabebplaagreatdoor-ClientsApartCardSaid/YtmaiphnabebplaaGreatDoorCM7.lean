/- ClientsApart: the walk. -/
import Derived.Test.YtmaiphnabebplaaGreatDoorCL8
import Derived.Test.YtmaiphnabebplaaGreatDoorCN1
set_option linter.unusedVariables false
set_option linter.unusedSimpArgs false
set_option maxRecDepth 100000
set_option maxHeartbeats 8000000
namespace Go.Proofs.YtmaiphnabebplaaGreatDoor
open Go Go.RowKit Go.Proofs.AE
abbrev ac_rostrumkeep_ClientsApart := CC.of Tryz.f9 [(6, [([0, 1, 2, 3, 4, 5, 6, 7, 8, 9, 10, 11, 12, 13, 14, 15, 16, 17, 18], [(1, 15), (1, 17), (3, 15), (3, 17), (5, 15), (5, 17), (7, 15), (7, 17), (9, 15), (9, 17), (11, 15), (11, 17), (14, 17)]), ([0, 1, 2, 3, 4, 5, 6, 7, 8, 9, 10, 11, 12, 13, 14, 17, 15, 16, 18], [(1, 15), (1, 16), (3, 15), (3, 16), (5, 15), (5, 16), (7, 15), (7, 16), (9, 15), (9, 16), (11, 15), (11, 16), (14, 15)])]), (18, [([0, 1, 2, 3, 4, 5, 6, 7, 8, 9, 10, 11, 12, 13, 14, 15, 16, 17, 18, 19], [])])]
variable {G : Nat → AV}
theorem clientsApart_c (hG : Noth G) (l : List Deed) (d : Deed) (hl : ∀ x ∈ l, x.Ok) (hll : (l.length : Int) ≤ 9223372036854775807) (hd : d.Ok) : PCall Tryz.prog G 9 [.one (.v (.sl (l.map Deed.row))), .agg d.c] (bV true) := by
  have hmk := openedK_c hG l hl hll
  obtain ⟨hi, _, _⟩ := openedV_inv l hl
  obtain ⟨L, hL, _, _, _⟩ := opened_last hl
  generalize openedV l = m at *
  have hlen : 0 < m.clis.length := by rw [hL]; simp
  have hl4 := hi.ok.len
  clear hL
  have hp := pk_range (n := d.client) (m := (m.clis.length : Int)) (by omega)
  have hpk := picked_c (G := G) d.client m.clis.length hd.client (by omega)
  obtain ⟨j, hj⟩ : ∃ j : Nat, pk d.client m.clis.length = (j : Int) := ⟨(pk d.client m.clis.length).toNat, by omega⟩
  rw [hj] at hp hpk
  obtain ⟨x, hx⟩ : ∃ x, m.clis[j]? = some x := ⟨_, List.getElem?_eq_getElem (by omega)⟩
  have ho := hi.ok.all x (List.mem_of_getElem? hx)
  have hsq := hi.seq x (List.mem_of_getElem? hx)
  have hnx := hi.next
  have i1 := ho.id
  have i2 := ho.seq
  have hcm := commandR_c (G := G) d.raw hd.raw
  have hcok := cmdR_ok hd.raw
  generalize cmdR d.raw = cc at *
  obtain ⟨hc, hz⟩ := call_made (c := ⟨x.id, x.seq + 1, cc⟩) rfl i1.1 (by omega) (by omega) (by omega) hcok
  obtain ⟨S, R, ea, e1, o1, e2, o2, e3⟩ := done_p hi.ok hx hc hz rfl rfl
  obtain ⟨f1, f2, f3⟩ := hi.ok.dom
  have h1 := doM_c hG m m.sto.now ⟨x.id, x.seq + 1, cc⟩ f1 f2
  rw [e1] at h1
  have h2 := apply_c (G := G) m.sto m.sto.now cc f1
  simp only at ea
  rw [ea] at h2
  have h4 := sameR_c (G := G) R R (by have := o2.len; omega)
  rw [repEq_self] at h4
  have h5 := sameStore_c (G := G) S S o1.sto.small
  rw [decide_eq_true rfl] at h5
  have hrr : ∀ a ∈ m.clis, PCall Tryz.prog G 19 [.agg a.reply.c, .agg a.reply.c] (bV true) := fun a ha => by
    have := sameR_c (G := G) a.reply a.reply (f3 a ha)
    rwa [repEq_self] at this
  have w1 : IntKind.i64.wrap (x.seq + 1) = x.seq + 1 := IntWalk.i64_in _ (by omega)
  have q0 : ((m.clis.length : Int) == 0) = false := by rw [beq_eq_false_iff_ne]; omega
  have hK : ∀ i, i ≠ j → (m.clis.set j ⟨x.id, x.seq + 1, S.now, R⟩)[i]? = m.clis[i]? := fun i hi => by rw [List.getElem?_set_ne (fun h => hi h.symm)]
  have hKl : (m.clis.set j ⟨x.id, x.seq + 1, S.now, R⟩).length = m.clis.length := List.length_set
  simp only at e3 h1
  generalize m.clis.set j ⟨x.id, x.seq + 1, S.now, R⟩ = K at *
  have q9 : ((K.length : Int) == m.clis.length) = true := by rw [beq_iff_eq]; omega
  clear e1 ea hc hz f1 f2 f3 ho hi o1
  obtain ⟨⟨mn, me⟩, mx, ml⟩ := m
  obtain ⟨xi, xs, xt, ⟨xc, xx, xn, xl⟩⟩ := x
  obtain ⟨Sn, Se⟩ := S
  obtain ⟨rc, rt, rn, rl⟩ := R
  obtain ⟨ck, ckey, cf, ct, cn⟩ := cc
  obtain ⟨d1, d2, d3, d4, d5, d6, d7, d8⟩ := d
  simp only [ApA, DmA, Mach.c, Sto.c, Cal.c, Cmd.c, Rep.c, Deed.c, Deed.raw] at h1 h2 h4 h5 hmk hcm hpk hx w1 q0 q9 hK hKl hp hrr hlen hl4 e3 ⊢
  refine pcallc mixed Tryz.func9 ac_rostrumkeep_ClientsApart ?_
  repeat' (first | (with_reducible first | refine Cn (fun h => ?_) fun h => ?_ | refine And.intro ?_ ?_ | refine wR ?_ | exact wr _ _ | refine weak_autoC ?_ | apply awp_join | refine q hmk ?_ | refine qd hmk ?_ | refine qz hmk ?_ | refine q hcm ?_ | refine qd hcm ?_ | refine qz hcm ?_ | refine q hpk ?_ | refine qd hpk ?_ | refine qz hpk ?_ | refine q h1 ?_ | refine qd h1 ?_ | refine qz h1 ?_ | refine q h2 ?_ | refine qd h2 ?_ | refine qz h2 ?_ | refine q h4 ?_ | refine qd h4 ?_ | refine qz h4 ?_ | refine q h5 ?_ | refine qd h5 ?_ | refine qz h5 ?_) | (with_reducible refine CallZ.z ?_) | simp -dsimp [go_sem, hx, Cli.row, w1, q0, q9, hKl, clean_nil, clean_cons, clean_yes, clean_no])
  refine awp_loop (fun i : Nat => ⟨[(5, .one (.ptr 0 0)), (6, iV ml.length), (7, iV j), (8, .one (.ptr 1 0)), (9, .one (.ptr 2 0)), (10, .one (.ptr 3 0)), (15, iV i)], G, [some (.box 32 [iC mn, .v (.sl (eR me)), iC mx, .v (.sl (clR ml))]), some (.box 43 [iC xi, iC (xs + 1), iC ck, sC ckey, sC cf, sC ct, iC cn]), some (.box 32 [iC Sn, .v (.sl (eR Se)), iC mx, .v (.sl (clR K))]), some (.box 37 [iC rc, sC rt, iC rn, .v (.sl (strRows rl))])]⟩) (fun i => i ≤ ml.length) (fun i => ml.length - i) 0 (weak_auto ?_) (Nat.zero_le _) ?_
  · simp -dsimp [go_sem]
  · intro i hi
    by_cases hil : i < ml.length
    · have e4 : IntKind.i64.wrap ((i : Int) + 1) = (i : Int) + 1 := IntWalk.i64_in _ (by omega)
      have q1 : decide (i < ml.length) = true := by simpa using hil
      by_cases hij : i = j
      · subst hij
        repeat' (first | (with_reducible first | refine Cn (fun h => ?_) fun h => ?_ | refine And.intro ?_ ?_ | refine wR ?_ | exact wr _ _ | refine wa ?_ | apply awp_join) | (with_reducible refine CallZ.z ?_) | simp -dsimp [go_sem, hx, e3, Cli.row, e4, q1])
        all_goals first
          | omega
          | (refine Again.auto (i + 1) ?_ ?_ ?_
             · simp -dsimp [go_sem]
             · exact hil
             · show ml.length - (i + 1) < ml.length - i; omega)
          | (exfalso; simp at *; done)
          | trace_state
      · have hk := hK i hij
        obtain ⟨a, ha⟩ : ∃ a, ml[i]? = some a := ⟨_, List.getElem?_eq_getElem hil⟩
        rw [ha] at hk
        have hr := hrr a (List.mem_of_getElem? ha)
        obtain ⟨ai, aq, au, ⟨ac, ax, an, al⟩⟩ := a
        simp only at hr
        have q2 : ((i : Int) == j) = false := by rw [beq_eq_false_iff_ne]; omega
        repeat' (first | (with_reducible first | refine Cn (fun h => ?_) fun h => ?_ | refine And.intro ?_ ?_ | refine wR ?_ | exact wr _ _ | refine wa ?_ | apply awp_join | refine q hr ?_ | refine qd hr ?_ | refine qz hr ?_) | (with_reducible refine CallZ.z ?_) | simp -dsimp [go_sem, ha, hk, Cli.row, e4, q1, q2])
        all_goals first
          | omega
          | (refine Again.auto (i + 1) ?_ ?_ ?_
             · simp -dsimp [go_sem]
             · exact hil
             · show ml.length - (i + 1) < ml.length - i; omega)
          | trace_state
    · have q1 : decide (i < ml.length) = false := by simpa using hil
      repeat' (first | (with_reducible first | refine Cn (fun h => ?_) fun h => ?_ | refine And.intro ?_ ?_ | refine wR ?_ | exact wr _ _ | refine weak_autoC ?_ | apply awp_join | refine q h4 ?_ | refine qd h4 ?_ | refine qz h4 ?_) | (with_reducible refine CallZ.z ?_) | simp -dsimp [go_sem, q1, e3, Cli.row, clean_nil, clean_cons, clean_yes, clean_no])
      all_goals first | omega | trace_state
end Go.Proofs.YtmaiphnabebplaaGreatDoor
