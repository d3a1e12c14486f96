/- The statement NewerOrderSaid is proved as it is given; no conditions. -/
import Derived.Test.YtlgcebeianjaiaaRows
import Derived.Test.YtlgcebeianjaiaaR
import Derived.Test.YtlgcebeianjaiaaW
import Derived.Test.YtlgcebeianjaiaaAeRow
import Derived.WalkKit
import Derived.ProofKit
import Derived.OpenShut
import Derived.ShutString
import Derived.ChangeOld
import Derived.Below
import Derived.SizedLaws
namespace Go.Proofs.Ytlgcebeianjaiaa.newerOrder
open Go Go.ChangeShapes Go.WideShapes Go.ChangeAt Go.RowKit Go.Proofs.AE
theorem own : ownKnob Try.prog.godebug = none := by kernel_rfl
set_option maxHeartbeats 4000000 in
set_option maxRecDepth 100000 in
theorem lifted (os : Os) (started : os.Started) (H : Type) (enc : TypeId × Value → H) :
    ReturnsInHanded {} Try.checked os 7 .any (Rows.newerOrderSpec.pre6 enc Try.prog Try.f7 Rows.newerOrderRow.domain false) (Rows.newerOrderSpec.post enc Try.prog Try.f7 false true false false) := by
  refine returnsInHanded_of_change_sized (C := Try.checked) own started (by kernel_rfl) Try.func7
    (ChangeSpec.witness6 (enc := enc) (C := Try.checked) false ⟨#[], #[.slice none 0 0, .slice none 0 0, .int .i64 0, .int .i64 0], []⟩ 8 (by kernel_rfl) (by kernel_rfl) (by kernel_rfl) (by kernel_rfl)) ?_
  intro W base args ds gs before hval0 hW hcnd hsz0 _
  have hval : ∀ (j : Nat) t v, Try.f7.params[j]? = some t → args[j]? = some v → Value.okWide Try.prog W .any base t v := hval0
  have hW' := hW
  obtain ⟨p, q, hA0, hV, rfl, hfz, hnd⟩ := hW
  have hA : DataW.TrodAll enc Try.prog W 0 (fun _ => true) true Try.f7.params.toList args.toList ds p := hA0
  rw [Try.params7] at hA hval
  obtain ⟨v0, vs0, d0, ds0, p0, q0, hargs, rfl, rfl, h0, r0⟩ := trodAll_cons hA
  obtain ⟨v1, vs1, d1, ds1, p1, q1, rfl, rfl, rfl, h1, r1⟩ := trodAll_cons r0
  obtain ⟨v2, vs2, d2, ds2, p2, q2, rfl, rfl, rfl, h2, r2⟩ := trodAll_cons r1
  obtain ⟨v3, vs3, d3, ds3, p3, q3, rfl, rfl, rfl, h3, r3⟩ := trodAll_cons r2
  obtain ⟨rfl, rfl, rfl⟩ := trodAll_nil r3
  obtain rfl : args = #[v0, v1, v2, v3] := by cases args; simp_all
  obtain ⟨rfl, rfl⟩ := trodVars_none hV
  obtain ⟨a2, rfl, rfl, rfl, w2⟩ := open_int Try.underlying3 (hval 2 3 v2 rfl rfl) h2
  obtain ⟨a3, rfl, rfl, rfl, w3⟩ := open_int Try.underlying3 (hval 3 3 v3 rfl rfl) h3
  obtain ⟨rows, hv, hrl, hwt⟩ := read_slice (n := 4) (e := 56) kids Try.underlying40 (by decide +kernel) (by simp [flatT, go_sem]) (slicesOk_spec slok (by decide +kernel) Try.underlying40) (hval 0 40 v0 rfl rfl) h0 []
  obtain ⟨l, rfl, hd⟩ := deeds_of rows hwt
  have hl : (l.length : Int) ≤ 9223372036854775807 := by simp [maxLen] at hrl; omega
  obtain ⟨rows', hv', hrl', hwt'⟩ := read_slice (n := 4) (e := 56) kids Try.underlying40 (by decide +kernel) (by simp [flatT, go_sem]) (slicesOk_spec slok (by decide +kernel) Try.underlying40) (hval 1 40 v1 rfl rfl) h1 []
  obtain ⟨m, rfl, hd'⟩ := deeds_of rows' hwt'
  have hm : (m.length : Int) ≤ 9223372036854775807 := by simp [maxLen] at hrl'; omega
  have hc := (newerOrder_c (G := fun _ => .any) l m a2 a3 hl hm hd hd' (wf_i64 w2) (wf_i64 w3)).run (W := W) (ok := fun b => b < W.heap.size) (fun _ h => h) (gany _) (xs := [v0, v1, .int .i64 a2, .int .i64 a3]) (.cons hv (.cons hv' (.cons (.one (.v (.lit _ rfl))) (.cons (.one (.v (.lit _ rfl))) .nil))))
  refine hc.mono fun e W' ⟨he, bel⟩ => ?_
  subst he
  exact ⟨_, rfl, _, _, _, [], _, [], hW', trodAll_mk1 (shut_bool Try.underlying4 _), trodAll_later kids (fun ht hu => slicesOk_spec slok ht hu) bel (by decide +kernel) hA, rfl, bel.frame _, fun h => by cases h⟩
theorem over : Rows.newerOrderRow.holds Try.pinned (OpenSpec.ofChange Rows.newerOrderSpec) :=
  OpenClaim.holds_of_wide 7 Try.f7 rfl rfl rfl rfl rfl rfl rfl ⟨rfl, rfl, rfl, rfl, rfl⟩ rfl rfl rfl rfl rfl (by kernel_rfl) Try.func7 (by kernel_rfl)
    (of_decide_eq_true (by kernel_rfl)) (by unfold Func.isWrapper; first | (rw [if_pos (by decide +kernel)]; kernel_rfl) | (rw [if_neg (by decide +kernel)]; exact ⟨rfl, rfl⟩))
    (fun os started H enc _ => lifted os started H enc)
theorem proved : Rows.NewerOrderSaid := over
end Go.Proofs.Ytlgcebeianjaiaa.newerOrder
namespace Go.Proofs.Ytlgcebeianjaiaa
theorem newerOrder_holds : Rows.NewerOrderSaid := newerOrder.proved
#print axioms newerOrder_holds
end Go.Proofs.Ytlgcebeianjaiaa
