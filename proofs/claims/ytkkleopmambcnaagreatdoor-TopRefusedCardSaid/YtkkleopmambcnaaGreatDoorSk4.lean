/- Texts joined. -/
import Derived.Test.YtkkleopmambcnaaGreatDoorSk3
import Derived.Test.YtkkleopmambcnaaGreatDoorRows
import Derived.ProofKit
import Derived.LaidMore
import Derived.OpenShut
import Derived.Test.YtkkleopmambcnaaGreatDoorProg
import Derived.JoinedOf
set_option linter.unusedVariables false
set_option linter.unusedSimpArgs false
set_option maxRecDepth 100000
set_option maxHeartbeats 8000000
namespace Go.Proofs.YtkkleopmambcnaaGreatDoor
open Go Go.RowKit Go.Proofs.AE
variable {G : Nat → AV}
abbrev ac_rostrumtop_TopRefused := CC.of Tryz.f3 [(3, [([0, 1, 2, 3, 4, 5, 6, 7, 8, 9, 10, 11], []), ([0, 1, 2, 4, 5, 3, 6, 7, 8, 9, 10, 11], [])])]
def zAct : Act := ⟨0, 0, 0, zCal⟩
def bentA : Act := ⟨3, 3, 0, zCal⟩
theorem topRefused_c (hG : Noth G) (l : List Gear) (n : Int) (hl : (l.length : Int) ≤ 9223372036854775807) (hd : ∀ g ∈ l, g.Ok) (hn : i64 n) : PCall Tryz.prog G 3 [.one (.v (.sl (l.map Gear.row))), iV n] (bV true) := by
  have h1 := acts_c (G := G) l 20 hl (by omega) hd
  have h1 : PCall Tryz.prog G 15 [.one (.v (.sl (l.map Gear.row))), iV 20] (.one (.v (.sl ((actsOf l 20).map Act.row)))) := h1
  have hg := acts_good hd 20
  have hlen := acts_len l 20
  generalize actsOf l 20 = aa at *
  have hal : (aa.map Act.row).length = aa.length := by simp
  have h2 := picked'_c (G := G) n (aa.length + 1) hn (by omega)
  have hp := pk_range (n := n) (m := (aa.length : Int) + 1) (by omega)
  obtain ⟨k, hk⟩ : ∃ k : Nat, pk n ((aa.length : Int) + 1) = k := ⟨(pk n ((aa.length : Int) + 1)).toNat, by omega⟩
  rw [hk] at h2 hp
  have hkl : k ≤ aa.length := by omega
  have w1 : IntKind.i64.wrap ((aa.length : Int) + 1) = (aa.length : Int) + 1 := IntWalk.i64_in _ (by omega)
  have e1 : bentA.check = 2 := by decide
  have e2 : zAct.check = 3 := by decide
  have htk : (aa.take k).length = k := by rw [List.length_take]; omega
  have h3 := runBad_c (G := G) (aa.take k ++ [bentA] ++ aa.drop k) k bentA (by simp; omega) (by rw [List.append_assoc, List.getElem?_append_right (by omega), htk, Nat.sub_self]; rfl) (by rw [e1]; omega) (fun i hi b hb => by
    rw [List.append_assoc, List.getElem?_append_left (by omega)] at hb
    exact hg b (List.mem_of_mem_take (List.mem_of_getElem? hb)))
  rw [e1] at h3
  have h4 := runMany_c (G := G) (List.replicate 3001 zAct) (by simp) (by simp)
  have h5 := runBad_c (G := G) [zAct] 0 zAct (by simp) rfl (by rw [e2]; omega) (fun i hi => by omega)
  rw [e2] at h5
  have hr : (List.replicate 3001 zAct).map Act.row = List.replicate 3001 zAct.row := by rw [List.map_replicate]
  rw [hr] at h4
  have u1 := act_ul aa
  have hrows : (aa.take k ++ [bentA] ++ aa.drop k).map Act.row = (aa.map Act.row).take k ++ [bentA.row] ++ (aa.map Act.row).drop k := by simp [List.map_take, List.map_drop]
  rw [hrows] at h3
  clear hg e1 e2 hr hrows hp hk
  have hle1 : (k : Int) ≤ (aa.length : Int) := by omega
  generalize aa.map Act.row = R at *
  have htl : R.take aa.length = R := by rw [← hal]; exact List.take_length
  rw [List.append_assoc, List.singleton_append] at h3
  simp only [bentA, zAct, zCal, Act.row, List.map_cons, List.map_nil] at h3 h4 h5
  refine pcallc mixed Tryz.func3 ac_rostrumtop_TopRefused ?_
  repeat' (first | (with_reducible first | refine Cn (fun h => ?_) fun h => ?_ | refine And.intro ?_ ?_ | refine wR ?_ | exact wr _ _ | refine wa ?_ | apply awp_join | refine q h1 ?_ | refine qd h1 ?_ | refine qz h1 ?_ | refine q h2 ?_ | refine qd h2 ?_ | refine qz h2 ?_ | refine q h3 ?_ | refine qd h3 ?_ | refine qz h3 ?_ | refine q h4 ?_ | refine qd h4 ?_ | refine qz h4 ?_ | refine q h5 ?_ | refine qd h5 ?_ | refine qz h5 ?_) | (with_reducible refine CallZ.z ?_) | simp -dsimp [go_sem, w1, u1, hal, htl])
  all_goals first | omega | exact ul_one rfl | exact fun r hr => u1 r (List.mem_of_mem_take hr) | exact fun r hr => u1 r (List.mem_of_mem_drop hr) | exact fun r hr => u1 r (List.mem_of_mem_take (List.mem_of_mem_drop hr)) | trace_state
end Go.Proofs.YtkkleopmambcnaaGreatDoor
set_option linter.unusedVariables false
set_option linter.unusedSimpArgs false
set_option maxRecDepth 100000
set_option maxHeartbeats 8000000
namespace Go.Proofs.YtkkleopmambcnaaGreatDoor
open Go Go.ChangeShapes Go.WideShapes Go.ChangeAt Go.RowKit Go.Proofs.AE
abbrev laidV {H : Type} : List (String × DataW H) := [("rostrum/client.nothing", Rows.laid_rostrum_client_nothing)]
theorem gNoth : Tryz.prog.globalNamed "rostrum/client.nothing" = some 0 := by kernel_rfl
theorem tNoth : (Tryz.prog.globals[0]?).map (·.type) = some 27 := by kernel_rfl
theorem door_met (os : Os) (args : Array Value) : laidMetH Tryz.prog laidV ((World.doorLaid Tryz.prog 14 os).forCall (fun _ _ => 0) ⟨#[], args, []⟩).memory :=
  laidMetH_of_parts3 (fuel := 8) (laidMet_of_run' 8 (by kernel_rfl) (by kernel_rfl)) (by kernel_rfl) (by kernel_rfl)
def gN : Nat → AV := fun g => if g = 0 then .one (.vptr [.lit (.int .i64 22), .lit (.string ⟨#[]⟩), .lit (.string ⟨#[]⟩), .lit (.string ⟨#[]⟩), .lit (.int .i64 0)]) else .any
theorem gN_noth : Noth gN := rfl
theorem noth_cells {W : World} (h : laidMetH Tryz.prog laidV W) : W.cell? ⟨0, 0, none⟩ = some (.int .i64 22) ∧ W.cell? ⟨0, 1, none⟩ = some (.string ⟨#[]⟩) ∧ W.cell? ⟨0, 2, none⟩ = some (.string ⟨#[]⟩) ∧ W.cell? ⟨0, 3, none⟩ = some (.string ⟨#[]⟩) ∧ W.cell? ⟨0, 4, none⟩ = some (.int .i64 0) := by
  rw [MakeChecks.laidMetH_plain _ _ _ (by kernel_rfl)] at h
  obtain ⟨ps, ⟨g0, t0, cs0, f0, p0, q0, hg0, ht0, hv0, hd0, _, _⟩, _⟩ := h
  obtain rfl := Option.some.inj (gNoth.symm.trans hg0)
  obtain rfl := Option.some.inj (tNoth.symm.trans ht0)
  have hc := fun j => World.var?_cell hg0 hv0 j
  obtain ⟨xs, m, h1, h2, h3, h4, h5⟩ := DataW.trod_struct Tryz.underlying27 hd0
  have c3 : Tryz.prog.cellsOf 3 = 1 := by kernel_rfl
  have c9 : Tryz.prog.cellsOf 9 = 1 := by kernel_rfl
  have c41 : Tryz.prog.cellsOf 27 = 5 := by kernel_rfl
  rw [c41] at h3
  simp only [Prod.mk.injEq] at h2
  have h2 := h2.1
  unfold Rows.laid_rostrum_client_nothing at h2
  obtain ⟨l⟩ := cs0
  simp only at h3 h5
  have h4 : xs.length = 5 := h4
  clear hd0
  match l, h3, xs, h4 with
  | [y0, y1, y2, y3, y4], _, [x0, x1, x2, x3, x4], _ =>
    simp only [DataW.agg.injEq, List.map_cons, List.map_nil, List.cons.injEq, and_true] at h2
    obtain ⟨e0, e1, e2, e3, e4⟩ := h2
    have a0 : DataW.trod (fun _ => ()) Tryz.prog W 0 (fun _ => true) false m 3 [y0] = some x0 := by
      have h := h5 0 _ rfl
      change DataW.trod _ _ _ _ _ _ _ 3 (List.take (Tryz.prog.cellsOf 3) (y0 :: _)) = _ at h
      rw [c3] at h
      exact h
    have a1 : DataW.trod (fun _ => ()) Tryz.prog W 0 (fun _ => true) false m 9 [y1] = some x1 := by
      have h := h5 1 _ rfl
      change DataW.trod _ _ _ _ _ _ _ 9 (List.take (Tryz.prog.cellsOf 9) (y1 :: _)) = _ at h
      rw [c9] at h
      exact h
    have a2 : DataW.trod (fun _ => ()) Tryz.prog W 0 (fun _ => true) false m 9 [y2] = some x2 := by
      have h := h5 2 _ rfl
      change DataW.trod _ _ _ _ _ _ _ 9 (List.take (Tryz.prog.cellsOf 9) (y2 :: _)) = _ at h
      rw [c9] at h
      exact h
    have a3 : DataW.trod (fun _ => ()) Tryz.prog W 0 (fun _ => true) false m 9 [y3] = some x3 := by
      have h := h5 3 _ rfl
      change DataW.trod _ _ _ _ _ _ _ 9 (List.take (Tryz.prog.cellsOf 9) (y3 :: _)) = _ at h
      rw [c9] at h
      exact h
    have a4 : DataW.trod (fun _ => ()) Tryz.prog W 0 (fun _ => true) false m 3 [y4] = some x4 := by
      have h := h5 4 _ rfl
      change DataW.trod _ _ _ _ _ _ _ 3 (List.take (Tryz.prog.cellsOf 3) (y4 :: _)) = _ at h
      rw [c3] at h
      exact h
    obtain ⟨n0, b0, r0, _⟩ := DataW.trod_int Tryz.underlying3 (x := x0) a0
    obtain ⟨s1, b1, r1, _⟩ := DataW.trod_string Tryz.underlying9 (x := x1) a1
    obtain ⟨s2, b2, r2, _⟩ := DataW.trod_string Tryz.underlying9 (x := x2) a2
    obtain ⟨s3, b3, r3, _⟩ := DataW.trod_string Tryz.underlying9 (x := x3) a3
    obtain ⟨n4, b4, r4, _⟩ := DataW.trod_int Tryz.underlying3 (x := x4) a4
    have emp : ∀ s : ByteArray, s.data.toList = [] → s = ⟨#[]⟩ := fun s h => ba_ext h
    subst r0; subst r1; subst r2; subst r3; subst r4
    simp only [DataW.lit.injEq, Lit.int.injEq, Lit.string.injEq] at e0 e1 e2 e3 e4
    have e1 := emp s1 e1.symm
    have e2 := emp s2 e2.symm
    have e3 := emp s3 e3.symm
    have k0 : (22 : Int) = n0 := by simpa using e0
    have k4 : (0 : Int) = n4 := by simpa using e4
    simp at b0 b1 b2 b3 b4
    subst b0; subst b1; subst b2; subst b3; subst b4; subst e1; subst e2; subst e3; subst k0; subst k4
    refine ⟨?_, ?_, ?_, ?_, ?_⟩ <;> (rw [hc]; rfl)
theorem gN_rel {W : World} (h : laidMetH Tryz.prog laidV W) (hb : 0 < W.heap.size) : GRel W (fun b => b < W.heap.size) gN := by
  intro g ν
  obtain ⟨h0, h1, h2, h3, h4⟩ := noth_cells h
  unfold gN
  by_cases hg : g = 0
  · subst hg
    rw [if_pos rfl]
    refine .one (.vptr 0 0 (fun j => if j = 0 then .int .i64 22 else if j = 4 then .int .i64 0 else .string ⟨#[]⟩) hb ?_ ?_)
    · intro j v hj
      match j, hj with
      | 0, _ => exact h0
      | 1, _ => exact h1
      | 2, _ => exact h2
      | 3, _ => exact h3
      | 4, _ => exact h4
    · intro j v hj
      match j, hj with
      | 0, hj => cases hj; exact .lit _ rfl
      | 1, hj => cases hj; exact .lit _ rfl
      | 2, hj => cases hj; exact .lit _ rfl
      | 3, hj => cases hj; exact .lit _ rfl
      | 4, hj => cases hj; exact .lit _ rfl
  · rw [if_neg hg]
    exact .any
theorem heap_pos {W : World} (h : laidMetH Tryz.prog laidV W) : 0 < W.heap.size := by
  have h0 := (noth_cells h).1
  unfold World.cell? at h0
  split at h0
  · rename_i hx
    exact (Array.getElem?_eq_some_iff.1 hx).1
  · cases h0
end Go.Proofs.YtkkleopmambcnaaGreatDoor
set_option linter.unusedVariables false
set_option linter.unusedSimpArgs false
set_option maxRecDepth 100000
set_option maxHeartbeats 8000000
namespace Go.Proofs.YtkkleopmambcnaaGreatDoor.topRefused
open Go
theorem and2 {a b : Bool} (h : a = true) (k : b = true) : (a && b) = true := by rw [h, k]; rfl
theorem lim0 : (Rows.topRefusedRow.wf (OpenSpec.ofChange Rows.topRefusedSpec)) = true := by kernel_rfl
theorem lim1 : (laidOutB Tryz.checked.prog) = true := by kernel_rfl
theorem lim2 : (mapsRowed Tryz.checked.prog) = true := by kernel_rfl
theorem lim3 : (Tryz.f3.params.all (Tryz.checked.prog.readableRec ·)) = true := by kernel_rfl
theorem lim4 : (namedTie Tryz.checked.prog Rows.topRefusedRow.named Rows.topRefusedSpec.vars) = true := by kernel_rfl
theorem lim5 : ((Rows.topRefusedRow.stops == [])) = true := by kernel_rfl
theorem lim6 : ((Tryz.checked.prog.stops == [])) = true := by kernel_rfl
theorem lim7 : ((Rows.topRefusedRow.knobs == [])) = true := by kernel_rfl
theorem lim8 : ((Tryz.checked.prog.stopKnobs == [])) = true := by kernel_rfl
theorem lim9 : ((Rows.topRefusedRow.inPlace == Tryz.checked.prog.inPlace 3)) = true := by kernel_rfl
theorem lim10 : ((Rows.topRefusedRow.unfollowed == Tryz.checked.prog.unfollowed 3)) = true := by kernel_rfl
theorem lim11 : ((Rows.topRefusedRow.recurses == Tryz.checked.prog.recurses 3)) = true := by kernel_rfl
theorem lim12 : ((Rows.topRefusedRow.named == Tryz.checked.prog.varsNamed 3)) = true := by kernel_rfl
theorem lim13 : ((Rows.topRefusedRow.maps == (Tryz.f3.params.toList ++ Rows.topRefusedSpec.plain.varTypes Tryz.checked.prog).any (Tryz.checked.prog.mapsRec ·))) = true := by kernel_rfl
theorem lim14 : ((Rows.topRefusedRow.ifaces == (Tryz.f3.params.toList ++ Rows.topRefusedSpec.plain.varTypes Tryz.checked.prog).any (Tryz.checked.prog.ifacesRec ·))) = true := by kernel_rfl
theorem lim15 : ((Rows.topRefusedRow.mapsOut == Tryz.checked.prog.mapsAmong Tryz.f3.resultTypes.toList)) = true := by kernel_rfl
theorem lim16 : ((Rows.topRefusedRow.loops == (Tryz.f3.params.toList ++ Rows.topRefusedSpec.plain.varTypes Tryz.checked.prog).any (Tryz.checked.prog.loopsFrom ·))) = true := by kernel_rfl
theorem lim17 : ((Rows.topRefusedRow.wideKeys == (Tryz.f3.params.toList ++ Rows.topRefusedSpec.plain.varTypes Tryz.checked.prog ++ Tryz.f3.resultTypes.toList).any (Tryz.checked.prog.wideKeysFrom ·))) = true := by kernel_rfl
theorem lim18 : (Rows.topRefusedSpec.vars.all (Tryz.checked.prog.varReadable ·)) = true := by kernel_rfl
theorem lim19 : (Tryz.f3.resultTypes.all (fun t => Tryz.checked.prog.readableRec t && decide (t < Tryz.checked.prog.types.size))) = true := by kernel_rfl
theorem lim20 : ((Rows.topRefusedRow.ifacesOut == Tryz.f3.resultTypes.toList.any (Tryz.checked.prog.ifacesRec ·))) = true := by kernel_rfl
theorem lim21 : ((Rows.topRefusedRow.loopsOut == Tryz.f3.resultTypes.toList.any (Tryz.checked.prog.loopsFrom ·))) = true := by kernel_rfl
theorem lim22 : ((Rows.topRefusedRow.plainKeys == Tryz.checked.prog.plainKeys)) = true := by kernel_rfl
theorem lim23 : (Rows.topRefusedRow.shortTexts.isNone) = true := by kernel_rfl
theorem lim24 : (Tryz.checked.prog.stopsHeard) = true := by kernel_rfl
theorem lim25 : (Tryz.checked.prog.mayEnter) = true := by kernel_rfl
theorem lim26 : ((Rows.topRefusedRow.lifted == Tryz.checked.prog.liftsFinal)) = true := by kernel_rfl
theorem lim27 : ((Tryz.checked.prog.make == some Rows.topRefusedRow.make)) = true := by kernel_rfl
theorem lim28 : ((Rows.topRefusedRow.kinds == (if Rows.topRefusedRow.domain.isEmpty then [] else Tryz.f3.params.toList.map fun t => match Tryz.checked.prog.underlying t with | some (.int k) => some k | _ => none))) = true := by kernel_rfl
theorem lim29 : ((Rows.topRefusedRow.pinned == Rows.topRefusedRow.pinnedBy)) = true := by kernel_rfl
theorem lim30 : ((Rows.topRefusedRow.veiled == (Tryz.f3.params.toList ++ Rows.topRefusedSpec.plain.varTypes Tryz.checked.prog ++ Tryz.f3.resultTypes.toList).any (Tryz.checked.prog.veiledRec ·))) = true := by kernel_rfl
theorem lim31 : (Rows.topRefusedRow.veiledFits Tryz.checked.prog Tryz.f3.params.toList (Tryz.f3.params.toList ++ Rows.topRefusedSpec.plain.varTypes Tryz.checked.prog ++ Tryz.f3.resultTypes.toList)) = true := by kernel_rfl
theorem joined : joinedFacts Tryz.checked.prog 3 Tryz.f3 Rows.topRefusedSpec Rows.topRefusedRow = true := by
  unfold joinedFacts
  exact and2 (and2 (and2 (and2 (and2 (and2 (and2 (and2 (and2 (and2 (and2 (and2 (and2 (and2 (and2 (and2 (and2 (and2 (and2 (and2 (and2 (and2 (and2 (and2 (and2 (and2 (and2 (and2 (and2 (and2 (and2 lim0 lim1) lim2) lim3) lim4) lim5) lim6) lim7) lim8) lim9) lim10) lim11) lim12) lim13) lim14) lim15) lim16) lim17) lim18) lim19) lim20) lim21) lim22) lim23) lim24) lim25) lim26) lim27) lim28) lim29) lim30) lim31
end Go.Proofs.YtkkleopmambcnaaGreatDoor.topRefused
