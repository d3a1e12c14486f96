/- MachineMay: the walk. -/
import Derived.Test.YtmaiphnabebplaaGreatDoorCL7
import Derived.Test.YtmaiphnabebplaaGreatDoorCL9
set_option linter.unusedVariables false
set_option linter.unusedSimpArgs false
set_option maxRecDepth 100000
set_option maxHeartbeats 8000000
namespace Go.Proofs.YtmaiphnabebplaaGreatDoor
open Go Go.RowKit Go.Proofs.AE
abbrev ac_rostrumkeep_MachineMay := CC.of Tryz.f3 [(2, [([0, 1, 2, 3, 4, 5, 6, 7, 8, 9, 10, 11, 12, 13, 14, 15, 16], [(0, 6), (0, 12), (0, 13), (3, 6), (3, 12), (3, 13), (4, 12), (4, 13), (5, 12), (5, 13)]), ([0, 1, 2, 3, 4, 5, 6, 7, 8, 9, 10, 11, 13, 12, 14, 15, 16], [(0, 6), (0, 12), (0, 13), (3, 6), (3, 12), (3, 13), (4, 12), (4, 13), (5, 12), (5, 13)]), ([0, 1, 2, 3, 4, 5, 6, 12, 7, 8, 9, 10, 11, 13, 14, 15, 16], [(0, 6), (0, 7), (0, 13), (3, 6), (3, 7), (3, 13), (4, 7), (4, 13), (5, 7), (5, 13)]), ([0, 1, 2, 3, 4, 5, 6, 12, 13, 7, 8, 9, 10, 11, 14, 15, 16], [(0, 6), (0, 7), (0, 8), (3, 6), (3, 7), (3, 8), (4, 7), (4, 8), (5, 7), (5, 8)]), ([0, 1, 2, 3, 4, 5, 6, 13, 7, 8, 9, 10, 11, 12, 14, 15, 16], [(0, 6), (0, 7), (0, 13), (3, 6), (3, 7), (3, 13), (4, 7), (4, 13), (5, 7), (5, 13)]), ([0, 1, 2, 3, 4, 5, 6, 13, 12, 7, 8, 9, 10, 11, 14, 15, 16], [(0, 6), (0, 7), (0, 8), (3, 6), (3, 7), (3, 8), (4, 7), (4, 8), (5, 7), (5, 8)]), ([0, 1, 2, 3, 4, 5, 12, 6, 7, 8, 9, 10, 11, 13, 14, 15, 16], [(0, 6), (0, 7), (0, 13), (3, 6), (3, 7), (3, 13), (4, 6), (4, 13), (5, 6), (5, 13)]), ([0, 1, 2, 3, 4, 5, 12, 6, 13, 7, 8, 9, 10, 11, 14, 15, 16], [(0, 6), (0, 7), (0, 8), (3, 6), (3, 7), (3, 8), (4, 6), (4, 8), (5, 6), (5, 8)]), ([0, 1, 2, 3, 4, 5, 12, 13, 6, 7, 8, 9, 10, 11, 14, 15, 16], [(0, 6), (0, 7), (0, 8), (3, 6), (3, 7), (3, 8), (4, 6), (4, 7), (5, 6), (5, 7)]), ([0, 1, 2, 3, 4, 5, 13, 6, 7, 8, 9, 10, 11, 12, 14, 15, 16], [(0, 6), (0, 7), (0, 13), (3, 6), (3, 7), (3, 13), (4, 6), (4, 13), (5, 6), (5, 13)]), ([0, 1, 2, 3, 4, 5, 13, 6, 12, 7, 8, 9, 10, 11, 14, 15, 16], [(0, 6), (0, 7), (0, 8), (3, 6), (3, 7), (3, 8), (4, 6), (4, 8), (5, 6), (5, 8)]), ([0, 1, 2, 3, 4, 5, 13, 12, 6, 7, 8, 9, 10, 11, 14, 15, 16], [(0, 6), (0, 7), (0, 8), (3, 6), (3, 7), (3, 8), (4, 6), (4, 7), (5, 6), (5, 7)])])]
variable {G : Nat → AV}
theorem machineMay_c (hG : Noth G) (l : List Deed) (d : Deed) (hl : ∀ x ∈ l, x.Ok) (hll : (l.length : Int) ≤ 9223372036854775807) (hd : d.Ok) : PCall Tryz.prog G 3 [.one (.v (.sl (l.map Deed.row))), .agg d.c] (bV true) := by
  have hmk := machineK_c hG l hl hll
  obtain ⟨hi, hnow⟩ := machV_inv l hl
  generalize machV l = m at *
  obtain ⟨f1, f2, f3, f4⟩ := hi.dom
  have hck := callK_c (G := G) m d hd f3 f4
  have hc := callD_ok hi (by omega) hd
  generalize callD m.clis d = c at *
  have h1 := doM_c hG m m.sto.now c f1 f2
  rw [do_now hi.ok hc] at h1
  have h2 := doM_c hG m (-1) openC f1 f2
  rw [do_bad hi.ok (.inl (by omega))] at h2
  obtain ⟨o1, o2⟩ := call_ok hi.ok hi.ok.sto.now.1 hi.ok.sto.now.2 hc
  generalize callM m m.sto.now c = q at *
  obtain ⟨x, r⟩ := q
  simp only at o1 o2 h1
  have h3 := checkM_c (G := G) m f1 f2
  rw [checkM_iff.2 hi.ok] at h3
  have h4 := checkM_c (G := G) x o1.sto.small (by have := o1.len; omega)
  rw [checkM_iff.2 o1] at h4
  have h5 := checkR_c (G := G) r
  rw [checkR_iff.2 o2] at h5
  clear hi f1 f2 f3 f4 hc o1 o2
  obtain ⟨⟨mn, me⟩, mx, ml⟩ := m
  obtain ⟨⟨xn, xe⟩, xx, xl⟩ := x
  obtain ⟨rc, rt, rn, rl⟩ := r
  obtain ⟨cid, cseq, ⟨ck, ckey, cf, ct, cn⟩⟩ := c
  obtain ⟨d1, d2, d3, d4, d5, d6, d7, d8⟩ := d
  simp only [DmA, Mach.c, Cal.c, Cmd.c, Rep.c, Deed.c, openC, zeroM, zeroS, toldR, List.map_nil] at h1 h2 h3 h4 h5 hmk hck ⊢
  refine pcallc mixed Tryz.func3 ac_rostrumkeep_MachineMay ?_
  repeat' (first | (with_reducible first | refine Cn (fun h => ?_) fun h => ?_ | refine And.intro ?_ ?_ | refine wR ?_ | exact wr _ _ | refine wa ?_ | apply awp_join | refine q hmk ?_ | refine qd hmk ?_ | refine qz hmk ?_ | refine q hck ?_ | refine qd hck ?_ | refine qz hck ?_ | refine q h1 ?_ | refine qd h1 ?_ | refine qz h1 ?_ | refine q h2 ?_ | refine qd h2 ?_ | refine qz h2 ?_ | refine q h3 ?_ | refine qd h3 ?_ | refine qz h3 ?_ | refine q h4 ?_ | refine qd h4 ?_ | refine qz h4 ?_ | refine q h5 ?_ | refine qd h5 ?_ | refine qz h5 ?_) | (with_reducible refine CallZ.z ?_) | simp -dsimp [go_sem])
  all_goals trace_state
end Go.Proofs.YtmaiphnabebplaaGreatDoor
