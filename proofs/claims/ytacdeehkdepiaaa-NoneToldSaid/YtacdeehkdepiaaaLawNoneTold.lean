/- The statement NoneToldSaid is proved as it is given; no conditions. -/
import Derived.Test.YtacdeehkdepiaaaRows
import Derived.Test.YtacdeehkdepiaaaL1
import Derived.Test.YtacdeehkdepiaaaWQ
import Derived.Test.YtacdeehkdepiaaaW
import Derived.Test.YtacdeehkdepiaaaAeRow
import Derived.WalkKit
import Derived.ProofKit
import Derived.OpenShut
import Derived.ShutString
import Derived.ChangeOld
import Derived.Below
import Derived.SizedLaws
namespace Go.Proofs.Ytacdeehkdepiaaa.noneTold
open Go Go.ChangeShapes Go.WideShapes Go.ChangeAt Go.RowKit Go.Proofs.AE
theorem own : ownKnob Try.prog.godebug = none := by kernel_rfl
set_option maxRecDepth 100000 in
set_option maxHeartbeats 4000000 in
theorem lifted (os : Os) (started : os.Started) (H : Type) (enc : TypeId × Value → H) :
    ReturnsInHanded {} Try.checked os 12 .any (Rows.noneToldSpec.pre6 enc Try.prog Try.f12 Rows.noneToldRow.domain false) (Rows.noneToldSpec.post enc Try.prog Try.f12 false true false false) := by
  refine returnsInHanded_of_change_sized (C := Try.checked) own started (by kernel_rfl) Try.func12
    (ChangeSpec.witness6 (enc := enc) (C := Try.checked) false ⟨#[], #[.agg #[.int .i64 0, .int .i64 0, .int .i64 0, .int .i64 0, .string ⟨#[]⟩]], []⟩ 8 (by kernel_rfl) (by kernel_rfl) (by kernel_rfl) (by kernel_rfl)) ?_
  intro W base args ds gs before hval0 hW hcnd hsz0 _
  have hval : ∀ (j : Nat) t v, Try.f12.params[j]? = some t → args[j]? = some v → Value.okWide Try.prog W .any base t v := hval0
  have hW' := hW
  obtain ⟨p, q, hA0, hV, rfl, hfz, hnd⟩ := hW
  have hA : DataW.TrodAll enc Try.prog W 0 (fun _ => true) true Try.f12.params.toList args.toList ds p := hA0
  rw [Try.params12] at hA hval
  obtain ⟨v0, vs0, d0, ds0, p0, q0, hargs, rfl, rfl, g0, r0⟩ := trodAll_cons hA
  obtain ⟨rfl, rfl, rfl⟩ := trodAll_nil r0
  obtain rfl : args = #[v0] := by cases args; simp_all
  obtain ⟨rfl, rfl⟩ := trodVars_none hV
  obtain ⟨vs0', hv0, hwt0⟩ := read_struct (n := 3) kids Try.underlying24 (by decide +kernel) (by simp [flatT, go_sem]) (hval 0 24 v0 rfl rfl) g0 (fun b => b < W.heap.size) []
  obtain ⟨kind0, key0, field0, n0, text0, rfl, k01, k02, k03, k04, _⟩ := raw_wt hwt0
  have hr0 : (Raw.mk kind0 key0 field0 n0 text0).Ok := ⟨k01, k02, k03, k04⟩
  have hc := (noneTold_c (G := fun _ => .any) ⟨kind0, key0, field0, n0, text0⟩ hr0).run (W := W) (ok := fun b => b < W.heap.size) (fun _ h => h) (gany _) (xs := [v0]) (.cons hv0 .nil)
  refine hc.mono fun e W' ⟨he, bel⟩ => ?_
  subst he
  exact ⟨_, rfl, _, _, _, [], _, [], hW', trodAll_mk1 (shut_bool Try.underlying4 _), trodAll_later kids (fun ht hu => slicesOk_spec slok ht hu) bel (by decide +kernel) hA, rfl, bel.frame _, fun h => by cases h⟩
theorem over : Rows.noneToldRow.holds Try.pinned (OpenSpec.ofChange Rows.noneToldSpec) :=
  OpenClaim.holds_of_wide 12 Try.f12 rfl rfl rfl rfl rfl rfl rfl ⟨rfl, rfl, rfl, rfl, rfl⟩ rfl rfl rfl rfl rfl (by kernel_rfl) Try.func12 (by kernel_rfl)
    (of_decide_eq_true (by kernel_rfl)) (by unfold Func.isWrapper; first | (rw [if_pos (by decide +kernel)]; kernel_rfl) | (rw [if_neg (by decide +kernel)]; exact ⟨rfl, rfl⟩))
    (fun os started H enc _ => lifted os started H enc)
theorem proved : Rows.NoneToldSaid := over
end Go.Proofs.Ytacdeehkdepiaaa.noneTold
namespace Go.Proofs.Ytacdeehkdepiaaa
theorem noneTold_holds : Rows.NoneToldSaid := noneTold.proved
#print axioms noneTold_holds
end Go.Proofs.Ytacdeehkdepiaaa
