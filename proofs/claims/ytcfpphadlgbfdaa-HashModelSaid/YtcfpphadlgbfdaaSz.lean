/- How long a slice from outside may be. -/
import Derived.Test.YtcfpphadlgbfdaaAeRead
import Derived.SizedLaws
set_option linter.unusedVariables false
set_option linter.unusedSimpArgs false
set_option maxRecDepth 100000
set_option maxHeartbeats 8000000
namespace Go.Proofs.Ytcfpphadlgbfdaa
open Go Go.RowKit Go.Proofs.AE
theorem read_len {H : Type} {enc : TypeId × Value → H} {P : Program} {w : World} {ok : Nat → Prop} {base : Nat} {spare : Nat → Bool} {held : Bool} {t e : TypeId} {v : Value} {d : DataW H} {ps : List MemPlace} {μ : List MB} {rows : List (List V)} (ht : P.underlying t = some (.slice e))
    (h : DataW.Trod enc P w base spare held t v d ps) (hv : AVRel w ok μ (.one (.v (.sl rows))) v) : rows = [] ∨ ∃ es sp, d = .slice es sp ∧ es.length = rows.length := by
  obtain ⟨fuel, hf⟩ := h
  cases hv with | one hv =>
  cases hv with | v hv =>
  rcases Go.Deep.open_slice ht hf with ⟨h1, h2⟩ | ⟨a, len, cap, m, n, D, Pl, h1, _, _, _, _, h2, _⟩
  · left
    cases hv with
    | nil => rfl
    | sl => simp [Value.cells] at h1
  · cases hv with
    | nil => simp [Value.cells] at h1
    | sl rows b off cap' cv hok hcap hmax hc hv =>
      right
      simp only [Value.cells] at h1
      have h3 : rows.length = len := by simp at h1; exact h1.2.1
      exact ⟨_, _, (Prod.mk.inj h2).1, by simp [h3]⟩
/-- A slice from outside lies in memory. -/
theorem sized_rows {H : Type} {P : Program} {ts : List TypeId} {ds : List (DataW H)} (hz : (DataW.weightsEach P ts ds).all (· ≤ reachBytes) = true) {j : Nat} {t e : TypeId} {d : DataW H} {rows : List (List V)} (hj : ts[j]? = some t) (hd : ds[j]? = some d) (hu : P.underlying t = some (.slice e))
    (h : rows = [] ∨ ∃ es sp, d = .slice es sp ∧ es.length = rows.length) : rows.length * P.bytesOf e ≤ 140737488351232 := by
  rcases h with rfl | ⟨es, sp, rfl, hl⟩
  · simp
  · have := sized_slice hz hj hd hu
    have h2 : rows.length * P.bytesOf e ≤ (es.length + sp.length) * P.bytesOf e := Nat.mul_le_mul_right _ (by omega)
    have h3 : reachBytes = 140737488351232 := by decide
    omega
end Go.Proofs.Ytcfpphadlgbfdaa
