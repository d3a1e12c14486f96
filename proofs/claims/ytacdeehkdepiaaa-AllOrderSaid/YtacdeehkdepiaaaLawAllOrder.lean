/- The statement AllOrderSaid is proved as it is given; no conditions. -/
import Derived.Test.YtacdeehkdepiaaaRows
import Derived.Test.YtacdeehkdepiaaaL7
import Derived.Test.YtacdeehkdepiaaaWQ
import Derived.Test.YtacdeehkdepiaaaSz
import Derived.Test.YtacdeehkdepiaaaW
import Derived.Test.YtacdeehkdepiaaaAeRow
import Derived.WalkKit
import Derived.ProofKit
import Derived.OpenShut
import Derived.ShutString
import Derived.ChangeOld
import Derived.Below
import Derived.SizedLaws
namespace Go.Proofs.Ytacdeehkdepiaaa.allOrder
open Go Go.ChangeShapes Go.WideShapes Go.ChangeAt Go.RowKit Go.Proofs.AE
theorem own : ownKnob Try.prog.godebug = none := by kernel_rfl
set_option maxRecDepth 100000 in
set_option maxHeartbeats 4000000 in
theorem lifted (os : Os) (started : os.Started) (H : Type) (enc : TypeId × Value → H) :
    ReturnsInHanded {} Try.checked os 18 .any (Rows.allOrderSpec.pre6 enc Try.prog Try.f18 Rows.allOrderRow.domain false) (Rows.allOrderSpec.post enc Try.prog Try.f18 false true false false) := by
  refine returnsInHanded_of_change_sized (C := Try.checked) own started (by kernel_rfl) Try.func18
    (ChangeSpec.witness6 (enc := enc) (C := Try.checked) false ⟨#[], #[.int .i64 0, .slice none 0 0], []⟩ 8 (by kernel_rfl) (by kernel_rfl) (by kernel_rfl) (by kernel_rfl)) ?_
  intro W base args ds gs before hval0 hW hcnd hsz0 _
  have hval : ∀ (j : Nat) t v, Try.f18.params[j]? = some t → args[j]? = some v → Value.okWide Try.prog W .any base t v := hval0
  have hW' := hW
  obtain ⟨p, q, hA0, hV, rfl, hfz, hnd⟩ := hW
  have hA : DataW.TrodAll enc Try.prog W 0 (fun _ => true) true Try.f18.params.toList args.toList ds p := hA0
  rw [Try.params18] at hA hval
  obtain ⟨v0, vs0, d0, ds0, p0, q0, hargs, rfl, rfl, g0, r0⟩ := trodAll_cons hA
  obtain ⟨v1, vs1, d1, ds1, p1, q1, rfl, rfl, rfl, g1, r1⟩ := trodAll_cons r0
  obtain ⟨rfl, rfl, rfl⟩ := trodAll_nil r1
  obtain rfl : args = #[v0, v1] := by cases args; simp_all
  obtain ⟨rfl, rfl⟩ := trodVars_none hV
  obtain ⟨a0, rfl, rfl, rfl, w0⟩ := open_int Try.underlying3 (hval 0 3 v0 rfl rfl) g0
  have h0 := wf_i64 w0
  obtain ⟨rows1, hv1, hrl1, hwt1⟩ := read_slice (n := 3) (e := 24) kids Try.underlying22 (by decide +kernel) (by simp [flatT, go_sem]) (slicesOk_spec slok (by decide +kernel) Try.underlying22) (hval 1 22 v1 rfl rfl) g1 []
  obtain ⟨l1, rfl, hd1⟩ := raws_of rows1 hwt1
  have hl1 : (l1.length : Int) ≤ 9223372036854775807 := by simp [maxLen] at hrl1; omega
  have hz1 : (l1.length : Int) * 48 ≤ 140737488351232 := by
    have := sized_rows hsz0 (j := 1) (t := 22) (e := 24) (d := d1) (by simp [Try.params18]) rfl Try.underlying22 (read_len Try.underlying22 g1 hv1)
    rw [List.length_map, show Try.checked.prog.bytesOf 24 = 48 from by kernel_rfl] at this
    omega
  have hc := (allOrder_c (G := fun _ => .any) a0 l1 h0 hd1 hz1).run (W := W) (ok := fun b => b < W.heap.size) (fun _ h => h) (gany _) (xs := [.int .i64 a0, v1]) (.cons (.one (.v (.lit _ rfl))) (.cons hv1 .nil))
  refine hc.mono fun e W' ⟨he, bel⟩ => ?_
  subst he
  exact ⟨_, rfl, _, _, _, [], _, [], hW', trodAll_mk1 (shut_bool Try.underlying4 _), trodAll_later kids (fun ht hu => slicesOk_spec slok ht hu) bel (by decide +kernel) hA, rfl, bel.frame _, fun h => by cases h⟩
theorem over : Rows.allOrderRow.holds Try.pinned (OpenSpec.ofChange Rows.allOrderSpec) :=
  OpenClaim.holds_of_wide 18 Try.f18 rfl rfl rfl rfl rfl rfl rfl ⟨rfl, rfl, rfl, rfl, rfl⟩ rfl rfl rfl rfl rfl (by kernel_rfl) Try.func18 (by kernel_rfl)
    (of_decide_eq_true (by kernel_rfl)) (by unfold Func.isWrapper; first | (rw [if_pos (by decide +kernel)]; kernel_rfl) | (rw [if_neg (by decide +kernel)]; exact ⟨rfl, rfl⟩))
    (fun os started H enc _ => lifted os started H enc)
theorem proved : Rows.AllOrderSaid := over
end Go.Proofs.Ytacdeehkdepiaaa.allOrder
namespace Go.Proofs.Ytacdeehkdepiaaa
theorem allOrder_holds : Rows.AllOrderSaid := allOrder.proved
#print axioms allOrder_holds
end Go.Proofs.Ytacdeehkdepiaaa
