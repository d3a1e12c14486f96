/- Deeds from outside. -/
import Derived.Test.YtniihihcklpdgaaP
set_option linter.unusedVariables false
set_option linter.unusedSimpArgs false
set_option maxRecDepth 100000
set_option maxHeartbeats 8000000
namespace Go.Proofs.Ytniihihcklpdgaa
open Go Go.RowKit Go.Proofs.AE
theorem deeds_of : ∀ (rows : List (List V)), (∀ r ∈ rows, WT Try.prog 4 25 r) → ∃ ds : List Deed, rows = ds.map Deed.row ∧ ∀ d ∈ ds, d.Ok
  | [], _ => ⟨[], rfl, fun d h => by cases h⟩
  | r :: rows, h => by
    obtain ⟨ds, h1, h2⟩ := deeds_of rows fun r hr => h r (List.mem_cons_of_mem _ hr)
    obtain ⟨client, off, wait, kind, key, field, n, text, rfl, a, b, c, d, e, f, g, _⟩ := deed_wt (h r (List.mem_cons_self ..))
    refine ⟨⟨client, off, wait, kind, key, field, n, text⟩ :: ds, by rw [h1]; rfl, fun x hx => ?_⟩
    rcases List.mem_cons.1 hx with rfl | hx
    · exact ⟨a, b, c, d, e, f, g⟩
    · exact h2 x hx
end Go.Proofs.Ytniihihcklpdgaa
