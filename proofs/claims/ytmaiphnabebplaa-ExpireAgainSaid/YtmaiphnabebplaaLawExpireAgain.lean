/- The statement ExpireAgainSaid is proved as it is given; no conditions. -/
import Derived.Test.YtmaiphnabebplaaRows
import Derived.Test.YtmaiphnabebplaaA18
import Derived.Test.YtmaiphnabebplaaW
import Derived.Test.YtmaiphnabebplaaAeRow
import Derived.WalkKit
import Derived.ProofKit
import Derived.OpenShut
import Derived.ShutString
import Derived.ChangeOld
import Derived.Below
import Derived.SizedLaws
namespace Go.Proofs.Ytmaiphnabebplaa.expireAgain
open Go Go.ChangeShapes Go.WideShapes Go.ChangeAt Go.RowKit Go.Proofs.AE
theorem own : ownKnob Try.prog.godebug = none := by kernel_rfl
set_option maxRecDepth 100000 in
set_option maxHeartbeats 4000000 in
theorem lifted (os : Os) (started : os.Started) (H : Type) (enc : TypeId × Value → H) :
    ReturnsInHanded {} Try.checked os 13 .any (Rows.expireAgainSpec.pre6 enc Try.prog Try.f13 Rows.expireAgainRow.domain false) (Rows.expireAgainSpec.post enc Try.prog Try.f13 false true false false) := by
  refine returnsInHanded_of_change_sized (C := Try.checked) own started (by kernel_rfl) Try.func13
    (ChangeSpec.witness6 (enc := enc) (C := Try.checked) false ⟨#[], #[.int .i64 0, .int .i64 0], []⟩ 8 (by kernel_rfl) (by kernel_rfl) (by kernel_rfl) (by kernel_rfl)) ?_
  intro W base args ds gs before hval0 hW hcnd hsz0 _
  have hval : ∀ (j : Nat) t v, Try.f13.params[j]? = some t → args[j]? = some v → Value.okWide Try.prog W .any base t v := hval0
  have hW' := hW
  obtain ⟨p, q, hA0, hV, rfl, hfz, hnd⟩ := hW
  have hA : DataW.TrodAll enc Try.prog W 0 (fun _ => true) true Try.f13.params.toList args.toList ds p := hA0
  rw [Try.params13] at hA hval
  obtain ⟨v0, vs0, d0, ds0, p0, q0, hargs, rfl, rfl, g0, r0⟩ := trodAll_cons hA
  obtain ⟨v1, vs1, d1, ds1, p1, q1, rfl, rfl, rfl, g1, r1⟩ := trodAll_cons r0
  obtain ⟨rfl, rfl, rfl⟩ := trodAll_nil r1
  obtain rfl : args = #[v0, v1] := by cases args; simp_all
  obtain ⟨rfl, rfl⟩ := trodVars_none hV
  obtain ⟨a0, rfl, rfl, rfl, w0⟩ := open_int Try.underlying3 (hval 0 3 v0 rfl rfl) g0
  have h0 := wf_i64 w0
  obtain ⟨a1, rfl, rfl, rfl, w1⟩ := open_int Try.underlying3 (hval 1 3 v1 rfl rfl) g1
  have h1 := wf_i64 w1
  have hc := (expireAgain_c (G := fun _ => .any) a0 a1 h0 h1).run (W := W) (ok := fun b => b < W.heap.size) (fun _ h => h) (gany _) (xs := [.int .i64 a0, .int .i64 a1]) (.cons (.one (.v (.lit _ rfl))) (.cons (.one (.v (.lit _ rfl))) .nil))
  refine hc.mono fun e W' ⟨he, bel⟩ => ?_
  subst he
  exact ⟨_, rfl, _, _, _, [], _, [], hW', trodAll_mk1 (shut_bool Try.underlying4 _), trodAll_later kids (fun ht hu => slicesOk_spec slok ht hu) bel (by decide +kernel) hA, rfl, bel.frame _, fun h => by cases h⟩
theorem over : Rows.expireAgainRow.holds Try.pinned (OpenSpec.ofChange Rows.expireAgainSpec) :=
  OpenClaim.holds_of_wide 13 Try.f13 rfl rfl rfl rfl rfl rfl rfl ⟨rfl, rfl, rfl, rfl, rfl⟩ rfl rfl rfl rfl rfl (by kernel_rfl) Try.func13 (by kernel_rfl)
    (of_decide_eq_true (by kernel_rfl)) (by unfold Func.isWrapper; first | (rw [if_pos (by decide +kernel)]; kernel_rfl) | (rw [if_neg (by decide +kernel)]; exact ⟨rfl, rfl⟩))
    (fun os started H enc _ => lifted os started H enc)
theorem proved : Rows.ExpireAgainSaid := over
end Go.Proofs.Ytmaiphnabebplaa.expireAgain
namespace Go.Proofs.Ytmaiphnabebplaa
theorem expireAgain_holds : Rows.ExpireAgainSaid := expireAgain.proved
#print axioms expireAgain_holds
end Go.Proofs.Ytmaiphnabebplaa
