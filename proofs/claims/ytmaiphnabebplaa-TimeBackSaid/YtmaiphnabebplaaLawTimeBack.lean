/- The statement TimeBackSaid is proved as it is given; no conditions. -/
import Derived.Test.YtmaiphnabebplaaRows
import Derived.Test.YtmaiphnabebplaaA23
import Derived.Test.YtmaiphnabebplaaWS
import Derived.Test.YtmaiphnabebplaaW
import Derived.Test.YtmaiphnabebplaaAeRow
import Derived.WalkKit
import Derived.ProofKit
import Derived.OpenShut
import Derived.ShutString
import Derived.ChangeOld
import Derived.Below
import Derived.SizedLaws
namespace Go.Proofs.Ytmaiphnabebplaa.timeBack
open Go Go.ChangeShapes Go.WideShapes Go.ChangeAt Go.RowKit Go.Proofs.AE
theorem own : ownKnob Try.prog.godebug = none := by kernel_rfl
set_option maxRecDepth 100000 in
set_option maxHeartbeats 4000000 in
theorem lifted (os : Os) (started : os.Started) (H : Type) (enc : TypeId × Value → H) :
    ReturnsInHanded {} Try.checked os 14 .any (Rows.timeBackSpec.pre6 enc Try.prog Try.f14 Rows.timeBackRow.domain false) (Rows.timeBackSpec.post enc Try.prog Try.f14 false true false false) := by
  refine returnsInHanded_of_change_sized (C := Try.checked) own started (by kernel_rfl) Try.func14
    (ChangeSpec.witness6 (enc := enc) (C := Try.checked) false ⟨#[], #[.slice none 0 0, .agg #[.int .i64 0, .int .i64 0, .int .i64 0, .int .i64 0, .string ⟨#[]⟩, .int .i64 0], .int .i64 0], []⟩ 8 (by kernel_rfl) (by kernel_rfl) (by kernel_rfl) (by kernel_rfl)) ?_
  intro W base args ds gs before hval0 hW hcnd hsz0 _
  have hval : ∀ (j : Nat) t v, Try.f14.params[j]? = some t → args[j]? = some v → Value.okWide Try.prog W .any base t v := hval0
  have hW' := hW
  obtain ⟨p, q, hA0, hV, rfl, hfz, hnd⟩ := hW
  have hA : DataW.TrodAll enc Try.prog W 0 (fun _ => true) true Try.f14.params.toList args.toList ds p := hA0
  rw [Try.params14] at hA hval
  obtain ⟨v0, vs0, d0, ds0, p0, q0, hargs, rfl, rfl, g0, r0⟩ := trodAll_cons hA
  obtain ⟨v1, vs1, d1, ds1, p1, q1, rfl, rfl, rfl, g1, r1⟩ := trodAll_cons r0
  obtain ⟨v2, vs2, d2, ds2, p2, q2, rfl, rfl, rfl, g2, r2⟩ := trodAll_cons r1
  obtain ⟨rfl, rfl, rfl⟩ := trodAll_nil r2
  obtain rfl : args = #[v0, v1, v2] := by cases args; simp_all
  obtain ⟨rfl, rfl⟩ := trodVars_none hV
  obtain ⟨rows0, hv0, hrl0, hwt0⟩ := read_slice (n := 4) (e := 26) kids Try.underlying22 (by decide +kernel) (by simp [flatT, go_sem]) (slicesOk_spec slok (by decide +kernel) Try.underlying22) (hval 0 22 v0 rfl rfl) g0 []
  obtain ⟨l0, rfl, hd0⟩ := steps_of rows0 hwt0
  have hl0 : (l0.length : Int) ≤ 9223372036854775807 := by simp [maxLen] at hrl0; omega
  obtain ⟨vs1', hv1, hwt1⟩ := read_struct (n := 4) kids Try.underlying26 (by decide +kernel) (by simp [flatT, go_sem]) (hval 1 26 v1 rfl rfl) g1 (fun b => b < W.heap.size) []
  obtain ⟨kind1, key1, field1, n1, text1, wait1, rfl, k11, k12, k13, k14, _, k15⟩ := step_wt hwt1
  have hs1 : (Stp.mk ⟨kind1, key1, field1, n1, text1⟩ wait1).Ok := ⟨⟨k11, k12, k13, k14⟩, k15⟩
  obtain ⟨a2, rfl, rfl, rfl, w2⟩ := open_int Try.underlying3 (hval 2 3 v2 rfl rfl) g2
  have h2 := wf_i64 w2
  have hc := (timeBack_c (G := fun _ => .any) l0 (Stp.mk ⟨kind1, key1, field1, n1, text1⟩ wait1) a2 hd0 hl0 hs1 h2).run (W := W) (ok := fun b => b < W.heap.size) (fun _ h => h) (gany _) (xs := [v0, v1, .int .i64 a2]) (.cons hv0 (.cons hv1 (.cons (.one (.v (.lit _ rfl))) .nil)))
  refine hc.mono fun e W' ⟨he, bel⟩ => ?_
  subst he
  exact ⟨_, rfl, _, _, _, [], _, [], hW', trodAll_mk1 (shut_bool Try.underlying4 _), trodAll_later kids (fun ht hu => slicesOk_spec slok ht hu) bel (by decide +kernel) hA, rfl, bel.frame _, fun h => by cases h⟩
theorem over : Rows.timeBackRow.holds Try.pinned (OpenSpec.ofChange Rows.timeBackSpec) :=
  OpenClaim.holds_of_wide 14 Try.f14 rfl rfl rfl rfl rfl rfl rfl ⟨rfl, rfl, rfl, rfl, rfl⟩ rfl rfl rfl rfl rfl (by kernel_rfl) Try.func14 (by kernel_rfl)
    (of_decide_eq_true (by kernel_rfl)) (by unfold Func.isWrapper; first | (rw [if_pos (by decide +kernel)]; kernel_rfl) | (rw [if_neg (by decide +kernel)]; exact ⟨rfl, rfl⟩))
    (fun os started H enc _ => lifted os started H enc)
theorem proved : Rows.TimeBackSaid := over
end Go.Proofs.Ytmaiphnabebplaa.timeBack
namespace Go.Proofs.Ytmaiphnabebplaa
theorem timeBack_holds : Rows.TimeBackSaid := timeBack.proved
#print axioms timeBack_holds
end Go.Proofs.Ytmaiphnabebplaa
