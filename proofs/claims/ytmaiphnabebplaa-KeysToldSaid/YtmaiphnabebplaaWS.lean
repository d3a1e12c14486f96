/- Steps from outside. -/
import Derived.Test.YtmaiphnabebplaaW
import Derived.Test.YtmaiphnabebplaaA7
set_option linter.unusedVariables false
set_option linter.unusedSimpArgs false
set_option maxRecDepth 100000
set_option maxHeartbeats 8000000
namespace Go.Proofs.Ytmaiphnabebplaa
open Go Go.RowKit Go.Proofs.AE
theorem step_wt {vs : List V} (h : WT Try.prog 4 26 vs) : ∃ (kind key field n : Int) (text : ByteArray) (wait : Int), vs = [.lit (.int .i64 kind), .lit (.int .i64 key), .lit (.int .i64 field), .lit (.int .i64 n), .lit (.string text), .lit (.int .i64 wait)] ∧
    i64 kind ∧ i64 key ∧ i64 field ∧ i64 n ∧ text.size ≤ maxLen ∧ i64 wait := by
  obtain ⟨hl, hf⟩ := WT_struct ti26 rfl h
  obtain ⟨j0, e0, r0⟩ := hf (24, 0) (by simp)
  obtain ⟨j1, e1, r1⟩ := hf (3, 5) (by simp)
  rw [ti24] at e0
  rw [ti3] at e1
  cases e0; cases e1
  obtain ⟨a, b, c, d, s, q, k1, k2, k3, k4, k5⟩ := raw_wt r0
  simp [WT, ti3] at r1
  obtain ⟨x, hx, wx⟩ := r1
  match vs, hl with
  | [v0, v1, v2, v3, v4, v5], _ =>
    simp at q hx
    obtain ⟨rfl, rfl, rfl, rfl, rfl⟩ := q
    subst hx
    exact ⟨a, b, c, d, s, x, rfl, k1, k2, k3, k4, k5, wf_i64 wx⟩
theorem steps_of : ∀ (rows : List (List V)), (∀ r ∈ rows, WT Try.prog 4 26 r) → ∃ ss : List Stp, rows = ss.map Stp.row ∧ ∀ s ∈ ss, s.Ok
  | [], _ => ⟨[], rfl, fun d h => by cases h⟩
  | r :: rows, h => by
    obtain ⟨ss, h1, h2⟩ := steps_of rows fun r hr => h r (List.mem_cons_of_mem _ hr)
    obtain ⟨kind, key, field, n, text, wait, rfl, a, b, c, d, _, e⟩ := step_wt (h r (List.mem_cons_self ..))
    refine ⟨⟨⟨kind, key, field, n, text⟩, wait⟩ :: ss, by rw [h1]; rfl, fun x hx => ?_⟩
    rcases List.mem_cons.1 hx with rfl | hx
    · exact ⟨⟨a, b, c, d⟩, e⟩
    · exact h2 x hx
end Go.Proofs.Ytmaiphnabebplaa
