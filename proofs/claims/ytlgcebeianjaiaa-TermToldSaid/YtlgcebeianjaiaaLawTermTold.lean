/- The statement TermToldSaid is proved as it is given; no conditions. -/
import Derived.Test.YtlgcebeianjaiaaRows
import Derived.Test.YtlgcebeianjaiaaR
import Derived.Test.YtlgcebeianjaiaaW
import Derived.Test.YtlgcebeianjaiaaAeRow
import Derived.WalkKit
import Derived.ProofKit
import Derived.OpenShut
import Derived.ShutString
import Derived.ChangeOld
import Derived.Below
import Derived.SizedLaws
namespace Go.Proofs.Ytlgcebeianjaiaa.termTold
open Go Go.ChangeShapes Go.WideShapes Go.ChangeAt Go.RowKit Go.Proofs.AE
theorem own : ownKnob Try.prog.godebug = none := by kernel_rfl
set_option maxHeartbeats 4000000 in
set_option maxRecDepth 100000 in
theorem lifted (os : Os) (started : os.Started) (H : Type) (enc : TypeId × Value → H) :
    ReturnsInHanded {} Try.checked os 6 .any (Rows.termToldSpec.pre6 enc Try.prog Try.f6 Rows.termToldRow.domain false) (Rows.termToldSpec.post enc Try.prog Try.f6 false true false false) := by
  refine returnsInHanded_of_change_sized (C := Try.checked) own started (by kernel_rfl) Try.func6
    (ChangeSpec.witness6 (enc := enc) (C := Try.checked) false ⟨#[], #[.slice none 0 0, .int .i64 0], []⟩ 8 (by kernel_rfl) (by kernel_rfl) (by kernel_rfl) (by kernel_rfl)) ?_
  intro W base args ds gs before hval0 hW hcnd hsz0 _
  have hval : ∀ (j : Nat) t v, Try.f6.params[j]? = some t → args[j]? = some v → Value.okWide Try.prog W .any base t v := hval0
  have hW' := hW
  obtain ⟨p, q, hA0, hV, rfl, hfz, hnd⟩ := hW
  have hA : DataW.TrodAll enc Try.prog W 0 (fun _ => true) true Try.f6.params.toList args.toList ds p := hA0
  rw [Try.params6] at hA hval
  obtain ⟨v0, vs0, d0, ds0, p0, q0, hargs, rfl, rfl, h0, r0⟩ := trodAll_cons hA
  obtain ⟨v1, vs1, d1, ds1, p1, q1, rfl, rfl, rfl, h1, r1⟩ := trodAll_cons r0
  obtain ⟨rfl, rfl, rfl⟩ := trodAll_nil r1
  obtain rfl : args = #[v0, v1] := by cases args; simp_all
  obtain ⟨rfl, rfl⟩ := trodVars_none hV
  obtain ⟨a1, rfl, rfl, rfl, w1⟩ := open_int Try.underlying3 (hval 1 3 v1 rfl rfl) h1
  obtain ⟨rows, hv, hrl, hwt⟩ := read_slice (n := 4) (e := 56) kids Try.underlying40 (by decide +kernel) (by simp [flatT, go_sem]) (slicesOk_spec slok (by decide +kernel) Try.underlying40) (hval 0 40 v0 rfl rfl) h0 []
  obtain ⟨l, rfl, hd⟩ := deeds_of rows hwt
  have hl : (l.length : Int) ≤ 9223372036854775807 := by simp [maxLen] at hrl; omega
  have hc := (termTold_c (G := fun _ => .any) l a1 hl hd (wf_i64 w1)).run (W := W) (ok := fun b => b < W.heap.size) (fun _ h => h) (gany _) (xs := [v0, .int .i64 a1]) (.cons hv (.cons (.one (.v (.lit _ rfl))) .nil))
  refine hc.mono fun e W' ⟨he, bel⟩ => ?_
  subst he
  exact ⟨_, rfl, _, _, _, [], _, [], hW', trodAll_mk1 (shut_bool Try.underlying4 _), trodAll_later kids (fun ht hu => slicesOk_spec slok ht hu) bel (by decide +kernel) hA, rfl, bel.frame _, fun h => by cases h⟩
theorem over : Rows.termToldRow.holds Try.pinned (OpenSpec.ofChange Rows.termToldSpec) :=
  OpenClaim.holds_of_wide 6 Try.f6 rfl rfl rfl rfl rfl rfl rfl ⟨rfl, rfl, rfl, rfl, rfl⟩ rfl rfl rfl rfl rfl (by kernel_rfl) Try.func6 (by kernel_rfl)
    (of_decide_eq_true (by kernel_rfl)) (by unfold Func.isWrapper; first | (rw [if_pos (by decide +kernel)]; kernel_rfl) | (rw [if_neg (by decide +kernel)]; exact ⟨rfl, rfl⟩))
    (fun os started H enc _ => lifted os started H enc)
theorem proved : Rows.TermToldSaid := over
end Go.Proofs.Ytlgcebeianjaiaa.termTold
namespace Go.Proofs.Ytlgcebeianjaiaa
theorem termTold_holds : Rows.TermToldSaid := termTold.proved
#print axioms termTold_holds
end Go.Proofs.Ytlgcebeianjaiaa
