/- What the listed variable gives the walks. -/
import Derived.Test.YtmaiphnabebplaaGreatDoorRows
import Derived.Test.YtmaiphnabebplaaGreatDoorCL4
import Derived.ProofKit
import Derived.LaidMore
import Derived.OpenShut
set_option linter.unusedVariables false
set_option linter.unusedSimpArgs false
set_option maxRecDepth 100000
set_option maxHeartbeats 8000000
namespace Go.Proofs.YtmaiphnabebplaaGreatDoor
open Go Go.ChangeShapes Go.WideShapes Go.ChangeAt Go.RowKit Go.Proofs.AE
abbrev laidV {H : Type} : List (String × DataW H) := [("rostrum/client.nothing", Rows.laid_rostrum_client_nothing)]
theorem gNoth : Tryz.prog.globalNamed "rostrum/client.nothing" = some 0 := by kernel_rfl
theorem tNoth : (Tryz.prog.globals[0]?).map (·.type) = some 41 := by kernel_rfl
theorem door_met (os : Os) (args : Array Value) : laidMetH Tryz.prog laidV ((World.doorLaid Tryz.prog 14 os).forCall (fun _ _ => 0) ⟨#[], args, []⟩).memory :=
  laidMetH_of_parts3 (fuel := 8) (laidMet_of_run' 8 (by kernel_rfl) (by kernel_rfl)) (by kernel_rfl) (by kernel_rfl)
/-- What is known of the variables. -/
def gN : Nat → AV := fun g => if g = 0 then .one (.vptr [.lit (.int .i64 22), .lit (.string ⟨#[]⟩), .lit (.string ⟨#[]⟩), .lit (.string ⟨#[]⟩), .lit (.int .i64 0)]) else .any
theorem gN_noth : Noth gN := rfl
theorem noth_cells {W : World} (h : laidMetH Tryz.prog laidV W) : W.cell? ⟨0, 0, none⟩ = some (.int .i64 22) ∧ W.cell? ⟨0, 1, none⟩ = some (.string ⟨#[]⟩) ∧ W.cell? ⟨0, 2, none⟩ = some (.string ⟨#[]⟩) ∧ W.cell? ⟨0, 3, none⟩ = some (.string ⟨#[]⟩) ∧ W.cell? ⟨0, 4, none⟩ = some (.int .i64 0) := by
  rw [MakeChecks.laidMetH_plain _ _ _ (by kernel_rfl)] at h
  obtain ⟨ps, ⟨g0, t0, cs0, f0, p0, q0, hg0, ht0, hv0, hd0, _, _⟩, _⟩ := h
  obtain rfl := Option.some.inj (gNoth.symm.trans hg0)
  obtain rfl := Option.some.inj (tNoth.symm.trans ht0)
  have hc := fun j => World.var?_cell hg0 hv0 j
  obtain ⟨xs, m, h1, h2, h3, h4, h5⟩ := DataW.trod_struct Tryz.underlying41 hd0
  have c3 : Tryz.prog.cellsOf 3 = 1 := by kernel_rfl
  have c9 : Tryz.prog.cellsOf 9 = 1 := by kernel_rfl
  have c41 : Tryz.prog.cellsOf 41 = 5 := by kernel_rfl
  rw [c41] at h3
  simp only [Prod.mk.injEq] at h2
  have h2 := h2.1
  unfold Rows.laid_rostrum_client_nothing at h2
  obtain ⟨l⟩ := cs0
  simp only at h3 h5
  have h4 : xs.length = 5 := h4
  clear hd0
  match l, h3, xs, h4 with
  | [y0, y1, y2, y3, y4], _, [x0, x1, x2, x3, x4], _ =>
    simp only [DataW.agg.injEq, List.map_cons, List.map_nil, List.cons.injEq, and_true] at h2
    obtain ⟨e0, e1, e2, e3, e4⟩ := h2
    have a0 : DataW.trod (fun _ => ()) Tryz.prog W 0 (fun _ => true) false m 3 [y0] = some x0 := by
      have h := h5 0 _ rfl
      change DataW.trod _ _ _ _ _ _ _ 3 (List.take (Tryz.prog.cellsOf 3) (y0 :: _)) = _ at h
      rw [c3] at h
      exact h
    have a1 : DataW.trod (fun _ => ()) Tryz.prog W 0 (fun _ => true) false m 9 [y1] = some x1 := by
      have h := h5 1 _ rfl
      change DataW.trod _ _ _ _ _ _ _ 9 (List.take (Tryz.prog.cellsOf 9) (y1 :: _)) = _ at h
      rw [c9] at h
      exact h
    have a2 : DataW.trod (fun _ => ()) Tryz.prog W 0 (fun _ => true) false m 9 [y2] = some x2 := by
      have h := h5 2 _ rfl
      change DataW.trod _ _ _ _ _ _ _ 9 (List.take (Tryz.prog.cellsOf 9) (y2 :: _)) = _ at h
      rw [c9] at h
      exact h
    have a3 : DataW.trod (fun _ => ()) Tryz.prog W 0 (fun _ => true) false m 9 [y3] = some x3 := by
      have h := h5 3 _ rfl
      change DataW.trod _ _ _ _ _ _ _ 9 (List.take (Tryz.prog.cellsOf 9) (y3 :: _)) = _ at h
      rw [c9] at h
      exact h
    have a4 : DataW.trod (fun _ => ()) Tryz.prog W 0 (fun _ => true) false m 3 [y4] = some x4 := by
      have h := h5 4 _ rfl
      change DataW.trod _ _ _ _ _ _ _ 3 (List.take (Tryz.prog.cellsOf 3) (y4 :: _)) = _ at h
      rw [c3] at h
      exact h
    obtain ⟨n0, b0, r0, _⟩ := DataW.trod_int Tryz.underlying3 (x := x0) a0
    obtain ⟨s1, b1, r1, _⟩ := DataW.trod_string Tryz.underlying9 (x := x1) a1
    obtain ⟨s2, b2, r2, _⟩ := DataW.trod_string Tryz.underlying9 (x := x2) a2
    obtain ⟨s3, b3, r3, _⟩ := DataW.trod_string Tryz.underlying9 (x := x3) a3
    obtain ⟨n4, b4, r4, _⟩ := DataW.trod_int Tryz.underlying3 (x := x4) a4
    have emp : ∀ s : ByteArray, s.data.toList = [] → s = ⟨#[]⟩ := fun s h => ba_ext h
    subst r0; subst r1; subst r2; subst r3; subst r4
    simp only [DataW.lit.injEq, Lit.int.injEq, Lit.string.injEq] at e0 e1 e2 e3 e4
    have e1 := emp s1 e1.symm
    have e2 := emp s2 e2.symm
    have e3 := emp s3 e3.symm
    have k0 : (22 : Int) = n0 := by simpa using e0
    have k4 : (0 : Int) = n4 := by simpa using e4
    simp at b0 b1 b2 b3 b4
    subst b0; subst b1; subst b2; subst b3; subst b4; subst e1; subst e2; subst e3; subst k0; subst k4
    refine ⟨?_, ?_, ?_, ?_, ?_⟩ <;> (rw [hc]; rfl)
theorem gN_rel {W : World} (h : laidMetH Tryz.prog laidV W) (hb : 0 < W.heap.size) : GRel W (fun b => b < W.heap.size) gN := by
  intro g ν
  obtain ⟨h0, h1, h2, h3, h4⟩ := noth_cells h
  unfold gN
  by_cases hg : g = 0
  · subst hg
    rw [if_pos rfl]
    refine .one (.vptr 0 0 (fun j => if j = 0 then .int .i64 22 else if j = 4 then .int .i64 0 else .string ⟨#[]⟩) hb ?_ ?_)
    · intro j v hj
      match j, hj with
      | 0, _ => exact h0
      | 1, _ => exact h1
      | 2, _ => exact h2
      | 3, _ => exact h3
      | 4, _ => exact h4
    · intro j v hj
      match j, hj with
      | 0, hj => cases hj; exact .lit _ rfl
      | 1, hj => cases hj; exact .lit _ rfl
      | 2, hj => cases hj; exact .lit _ rfl
      | 3, hj => cases hj; exact .lit _ rfl
      | 4, hj => cases hj; exact .lit _ rfl
  · rw [if_neg hg]
    exact .any
theorem heap_pos {W : World} (h : laidMetH Tryz.prog laidV W) : 0 < W.heap.size := by
  have h0 := (noth_cells h).1
  unfold World.cell? at h0
  split at h0
  · rename_i hx
    exact (Array.getElem?_eq_some_iff.1 hx).1
  · cases h0
end Go.Proofs.YtmaiphnabebplaaGreatDoor
