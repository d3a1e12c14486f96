/- Raw commands and numbers from outside. -/
import Derived.Test.YtcfpphadlgbfdaaJ14
set_option linter.unusedVariables false
set_option linter.unusedSimpArgs false
set_option maxRecDepth 100000
set_option maxHeartbeats 8000000
namespace Go.Proofs.Ytcfpphadlgbfdaa
open Go Go.RowKit Go.Proofs.AE
theorem raws_of : ∀ (rows : List (List V)), (∀ r ∈ rows, WT Try.prog 3 32 r) → ∃ rs : List Raw, rows = rs.map Raw.row ∧ ∀ r ∈ rs, r.Ok
  | [], _ => ⟨[], rfl, fun d h => by cases h⟩
  | r :: rows, h => by
    obtain ⟨rs, h1, h2⟩ := raws_of rows fun r hr => h r (List.mem_cons_of_mem _ hr)
    obtain ⟨kind, key, field, n, text, rfl, a, b, c, d, _⟩ := raw_wt (h r (List.mem_cons_self ..))
    refine ⟨⟨kind, key, field, n, text⟩ :: rs, by rw [h1]; rfl, fun x hx => ?_⟩
    rcases List.mem_cons.1 hx with rfl | hx
    · exact ⟨a, b, c, d⟩
    · exact h2 x hx
abbrev intRows (l : List Int) : List (List V) := l.map fun n => [V.lit (.int .i64 n)]
theorem ints_of : ∀ (rows : List (List V)), (∀ r ∈ rows, WT Try.prog 1 3 r) → ∃ ns : List Int, rows = intRows ns ∧ ∀ n ∈ ns, i64 n
  | [], _ => ⟨[], rfl, fun d h => by cases h⟩
  | r :: rows, h => by
    obtain ⟨ns, h1, h2⟩ := ints_of rows fun r hr => h r (List.mem_cons_of_mem _ hr)
    have hr := h r (List.mem_cons_self ..)
    simp [WT, ti3] at hr
    obtain ⟨x, rfl, wx⟩ := hr
    refine ⟨x :: ns, by rw [h1]; rfl, fun y hy => ?_⟩
    rcases List.mem_cons.1 hy with rfl | hy
    · exact wf_i64 wx
    · exact h2 y hy
end Go.Proofs.Ytcfpphadlgbfdaa
