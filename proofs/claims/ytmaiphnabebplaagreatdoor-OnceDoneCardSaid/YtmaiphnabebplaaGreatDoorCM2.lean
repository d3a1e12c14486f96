/- OnceDone: the walk. -/
import Derived.Test.YtmaiphnabebplaaGreatDoorCL8
import Derived.Test.YtmaiphnabebplaaGreatDoorCN1
set_option linter.unusedVariables false
set_option linter.unusedSimpArgs false
set_option maxRecDepth 100000
set_option maxHeartbeats 8000000
namespace Go.Proofs.YtmaiphnabebplaaGreatDoor
open Go Go.RowKit Go.Proofs.AE
abbrev ac_rostrumkeep_OnceDone := CC.of Tryz.f4 [(2, [([0, 1, 2, 3, 4, 5, 6, 7, 8], [(1, 5), (1, 7), (4, 7)]), ([0, 1, 2, 3, 4, 7, 5, 6, 8], [(1, 5), (1, 6), (4, 5)])]), (5, [([0, 1, 2, 3, 4, 5, 6, 7, 8, 9, 10, 11, 12, 13, 14, 15, 16, 17], [(0, 5), (0, 13), (0, 14), (3, 5), (3, 13), (3, 14), (7, 5), (7, 13), (7, 14)]), ([0, 1, 2, 3, 4, 5, 6, 7, 8, 9, 10, 11, 12, 14, 13, 15, 16, 17], [(0, 5), (0, 13), (0, 14), (3, 5), (3, 13), (3, 14), (7, 5), (7, 13), (7, 14)]), ([0, 1, 2, 3, 4, 5, 6, 7, 13, 8, 9, 10, 11, 12, 14, 15, 16, 17], [(0, 5), (0, 8), (0, 14), (3, 5), (3, 8), (3, 14), (7, 5), (7, 8), (7, 14)]), ([0, 1, 2, 3, 4, 5, 6, 7, 13, 14, 8, 9, 10, 11, 12, 15, 16, 17], [(0, 5), (0, 8), (0, 9), (3, 5), (3, 8), (3, 9), (7, 5), (7, 8), (7, 9)]), ([0, 1, 2, 3, 4, 5, 6, 7, 14, 8, 9, 10, 11, 12, 13, 15, 16, 17], [(0, 5), (0, 8), (0, 14), (3, 5), (3, 8), (3, 14), (7, 5), (7, 8), (7, 14)]), ([0, 1, 2, 3, 4, 5, 6, 7, 14, 13, 8, 9, 10, 11, 12, 15, 16, 17], [(0, 5), (0, 8), (0, 9), (3, 5), (3, 8), (3, 9), (7, 5), (7, 8), (7, 9)]), ([0, 1, 2, 3, 4, 7, 13, 5, 6, 8, 9, 10, 11, 12, 14, 15, 16, 17], [(0, 6), (0, 7), (0, 14), (3, 6), (3, 7), (3, 14), (5, 6), (5, 7), (5, 14)]), ([0, 1, 2, 3, 4, 7, 13, 5, 6, 14, 8, 9, 10, 11, 12, 15, 16, 17], [(0, 6), (0, 7), (0, 9), (3, 6), (3, 7), (3, 9), (5, 6), (5, 7), (5, 9)]), ([0, 1, 2, 3, 4, 7, 13, 14, 5, 6, 8, 9, 10, 11, 12, 15, 16, 17], [(0, 6), (0, 7), (0, 8), (3, 6), (3, 7), (3, 8), (5, 6), (5, 7), (5, 8)]), ([0, 1, 2, 3, 4, 7, 14, 5, 6, 8, 9, 10, 11, 12, 13, 15, 16, 17], [(0, 6), (0, 7), (0, 14), (3, 6), (3, 7), (3, 14), (5, 6), (5, 7), (5, 14)]), ([0, 1, 2, 3, 4, 7, 14, 5, 6, 13, 8, 9, 10, 11, 12, 15, 16, 17], [(0, 6), (0, 7), (0, 9), (3, 6), (3, 7), (3, 9), (5, 6), (5, 7), (5, 9)]), ([0, 1, 2, 3, 4, 7, 14, 13, 5, 6, 8, 9, 10, 11, 12, 15, 16, 17], [(0, 6), (0, 7), (0, 8), (3, 6), (3, 7), (3, 8), (5, 6), (5, 7), (5, 8)])])]
variable {G : Nat → AV}
theorem onceDone_c (hG : Noth G) (l : List Deed) (d : Deed) (n : Int) (hl : ∀ x ∈ l, x.Ok) (hll : (l.length : Int) ≤ 9223372036854775807) (hd : d.Ok) (hn : i64 n) : PCall Tryz.prog G 4 [.one (.v (.sl (l.map Deed.row))), .agg d.c, iV n] (bV true) := by
  have hmk := openedK_c hG l hl hll
  obtain ⟨hi, hnow, _⟩ := openedV_inv l hl
  have hnow2 := (machV_inv l hl).2
  obtain ⟨L, hL, _, l1, l2⟩ := opened_last hl
  rw [← hnow] at hnow2
  clear hnow
  generalize openedV l = m at *
  have hcm := commandR_c (G := G) d.raw hd.raw
  have hcok := cmdR_ok hd.raw
  generalize cmdR d.raw = cc at *
  obtain ⟨hc, hz⟩ := call_made (c := ⟨m.next - 1, 1, cc⟩) rfl l1 (by omega) (by omega) (by omega) hcok
  have hj : m.clis[L.length]? = some ⟨m.next - 1, 0, m.sto.now, toldR 0⟩ := by rw [hL]; exact last_get
  obtain ⟨S, R, _, e1, o1, e2, o2, e3⟩ := done_p hi.ok hj hc hz rfl rfl
  have sn : 0 ≤ S.now := o1.sto.now.1
  obtain ⟨a1, a2⟩ := again_p o1 e3 hc hz rfl rfl
  have hp := pk_range (n := n) (m := 50) (by omega)
  have hpk := picked_c (G := G) n 50 hn (by omega)
  obtain ⟨Z, a3⟩ := a2 (pk n 50) hp.1 (by show S.now + pk n 50 ≤ _; omega)
  obtain ⟨f1, f2, f3⟩ := hi.ok.dom
  obtain ⟨g1, g2, g3⟩ := o1.dom
  have h1 := doM_c hG m m.sto.now ⟨m.next - 1, 1, cc⟩ f1 f2
  rw [e1] at h1
  have h2 := doM_c hG _ S.now ⟨m.next - 1, 1, cc⟩ g1 g2
  have h3 := doM_c hG _ (S.now + pk n 50) ⟨m.next - 1, 1, cc⟩ g1 g2
  simp only at a1 a3
  rw [a1] at h2
  rw [a3] at h3
  have h4 := sameR_c (G := G) R R (by have := o2.len; omega)
  rw [repEq_self] at h4
  have h5 := sameSelf_c (G := G) o1
  have hlen : (m.clis.set L.length ⟨m.next - 1, 1, S.now, R⟩).length = L.length + 1 := by rw [List.length_set, hL]; simp
  obtain ⟨K, hK⟩ : ∃ K, m.clis.set L.length ⟨m.next - 1, 1, S.now, R⟩ = K := ⟨_, rfl⟩
  simp only [hK] at h1 h2 h3 h5 hlen
  clear e1 o1 e3 a1 a2 a3 g1 g2 g3 f1 f2 f3 hc hz hj hK hL
  have w1 : IntKind.i64.wrap (m.next - 1) = m.next - 1 := IntWalk.i64_in _ (by omega)
  have w2 : IntKind.i64.wrap (S.now + pk n 50) = S.now + pk n 50 := IntWalk.i64_in _ (by omega)
  have q1 : decide ((0 : Int) < K.length) = true := by simp; omega
  clear hi
  generalize pk n 50 = p at *
  obtain ⟨⟨mn, me⟩, mx, ml⟩ := m
  obtain ⟨Sn, Se⟩ := S
  obtain ⟨Zn, Ze⟩ := Z
  obtain ⟨rc, rt, rn, rl⟩ := R
  obtain ⟨ck, ckey, cf, ct, cn⟩ := cc
  obtain ⟨d1, d2, d3, d4, d5, d6, d7, d8⟩ := d
  simp only [DmA, Mach.c, Sto.c, Cal.c, Cmd.c, Rep.c, Deed.c, Deed.raw] at h1 h2 h3 h4 h5 hmk hcm hpk w1 w2 e2 ⊢
  subst e2
  refine pcallc mixed Tryz.func4 ac_rostrumkeep_OnceDone ?_
  repeat' (first | (with_reducible first | refine Cn (fun h => ?_) fun h => ?_ | refine And.intro ?_ ?_ | refine wR ?_ | exact wr _ _ | refine weak_autoC ?_ | apply awp_join | refine q hmk ?_ | refine qd hmk ?_ | refine qz hmk ?_ | refine q hcm ?_ | refine qd hcm ?_ | refine qz hcm ?_ | refine q hpk ?_ | refine qd hpk ?_ | refine qz hpk ?_ | refine q h1 ?_ | refine qd h1 ?_ | refine qz h1 ?_ | refine q h2 ?_ | refine qd h2 ?_ | refine qz h2 ?_ | refine q h3 ?_ | refine qd h3 ?_ | refine qz h3 ?_ | refine q h4 ?_ | refine qd h4 ?_ | refine qz h4 ?_ | refine q h5 ?_ | refine qd h5 ?_ | refine qz h5 ?_) | (with_reducible refine CallZ.z ?_) | simp -dsimp [go_sem, w1, w2, q1, hlen, clean_nil, clean_cons, clean_yes, clean_no])
  all_goals first | omega | trace_state
end Go.Proofs.YtmaiphnabebplaaGreatDoor
