/- The statement CommandBareSaid is proved as it is given; no conditions. -/
import Derived.Test.YtacdeehkdepiaaaRows
import Derived.Test.YtacdeehkdepiaaaL3
import Derived.Test.YtacdeehkdepiaaaWQ
import Derived.Test.YtacdeehkdepiaaaW
import Derived.Test.YtacdeehkdepiaaaAeRow
import Derived.WalkKit
import Derived.ProofKit
import Derived.OpenShut
import Derived.ShutString
import Derived.ChangeOld
import Derived.Below
import Derived.SizedLaws
namespace Go.Proofs.Ytacdeehkdepiaaa.commandBare
open Go Go.ChangeShapes Go.WideShapes Go.ChangeAt Go.RowKit Go.Proofs.AE
theorem own : ownKnob Try.prog.godebug = none := by kernel_rfl
set_option maxRecDepth 100000 in
set_option maxHeartbeats 4000000 in
theorem lifted (os : Os) (started : os.Started) (H : Type) (enc : TypeId × Value → H) :
    ReturnsInHanded {} Try.checked os 17 .any (Rows.commandBareSpec.pre6 enc Try.prog Try.f17 Rows.commandBareRow.domain false) (Rows.commandBareSpec.post enc Try.prog Try.f17 false true false false) := by
  refine returnsInHanded_of_change_sized (C := Try.checked) own started (by kernel_rfl) Try.func17
    (ChangeSpec.witness6 (enc := enc) (C := Try.checked) false ⟨#[], #[.agg #[.int .i64 0, .int .i64 0, .int .i64 0, .int .i64 0, .string ⟨#[]⟩], .int .i64 0], []⟩ 8 (by kernel_rfl) (by kernel_rfl) (by kernel_rfl) (by kernel_rfl)) ?_
  intro W base args ds gs before hval0 hW hcnd hsz0 _
  have hval : ∀ (j : Nat) t v, Try.f17.params[j]? = some t → args[j]? = some v → Value.okWide Try.prog W .any base t v := hval0
  have hW' := hW
  obtain ⟨p, q, hA0, hV, rfl, hfz, hnd⟩ := hW
  have hA : DataW.TrodAll enc Try.prog W 0 (fun _ => true) true Try.f17.params.toList args.toList ds p := hA0
  rw [Try.params17] at hA hval
  obtain ⟨v0, vs0, d0, ds0, p0, q0, hargs, rfl, rfl, g0, r0⟩ := trodAll_cons hA
  obtain ⟨v1, vs1, d1, ds1, p1, q1, rfl, rfl, rfl, g1, r1⟩ := trodAll_cons r0
  obtain ⟨rfl, rfl, rfl⟩ := trodAll_nil r1
  obtain rfl : args = #[v0, v1] := by cases args; simp_all
  obtain ⟨rfl, rfl⟩ := trodVars_none hV
  obtain ⟨vs0', hv0, hwt0⟩ := read_struct (n := 3) kids Try.underlying24 (by decide +kernel) (by simp [flatT, go_sem]) (hval 0 24 v0 rfl rfl) g0 (fun b => b < W.heap.size) []
  obtain ⟨kind0, key0, field0, n0, text0, rfl, k01, k02, k03, k04, _⟩ := raw_wt hwt0
  have hr0 : (Raw.mk kind0 key0 field0 n0 text0).Ok := ⟨k01, k02, k03, k04⟩
  obtain ⟨a1, rfl, rfl, rfl, w1⟩ := open_int Try.underlying3 (hval 1 3 v1 rfl rfl) g1
  have h1 := wf_i64 w1
  have hc := (commandBare_c (G := fun _ => .any) ⟨kind0, key0, field0, n0, text0⟩ a1 hr0 h1).run (W := W) (ok := fun b => b < W.heap.size) (fun _ h => h) (gany _) (xs := [v0, .int .i64 a1]) (.cons hv0 (.cons (.one (.v (.lit _ rfl))) .nil))
  refine hc.mono fun e W' ⟨he, bel⟩ => ?_
  subst he
  exact ⟨_, rfl, _, _, _, [], _, [], hW', trodAll_mk1 (shut_bool Try.underlying4 _), trodAll_later kids (fun ht hu => slicesOk_spec slok ht hu) bel (by decide +kernel) hA, rfl, bel.frame _, fun h => by cases h⟩
theorem over : Rows.commandBareRow.holds Try.pinned (OpenSpec.ofChange Rows.commandBareSpec) :=
  OpenClaim.holds_of_wide 17 Try.f17 rfl rfl rfl rfl rfl rfl rfl ⟨rfl, rfl, rfl, rfl, rfl⟩ rfl rfl rfl rfl rfl (by kernel_rfl) Try.func17 (by kernel_rfl)
    (of_decide_eq_true (by kernel_rfl)) (by unfold Func.isWrapper; first | (rw [if_pos (by decide +kernel)]; kernel_rfl) | (rw [if_neg (by decide +kernel)]; exact ⟨rfl, rfl⟩))
    (fun os started H enc _ => lifted os started H enc)
theorem proved : Rows.CommandBareSaid := over
end Go.Proofs.Ytacdeehkdepiaaa.commandBare
namespace Go.Proofs.Ytacdeehkdepiaaa
theorem commandBare_holds : Rows.CommandBareSaid := commandBare.proved
#print axioms commandBare_holds
end Go.Proofs.Ytacdeehkdepiaaa
