/- What is given from outside, by its type. -/
import Derived.Test.YtniihihcklpdgaaD
set_option linter.unusedVariables false
set_option linter.unusedSimpArgs false
set_option maxRecDepth 100000
set_option maxHeartbeats 8000000
namespace Go.Proofs.Ytniihihcklpdgaa
open Go Go.RowKit Go.Proofs.AE
theorem wf_i64 {n : Int} (h : (Lit.int .i64 n).wf = true) : i64 n := by
  rw [Lit.wf] at h
  simp only [Bool.and_eq_true, decide_eq_true_eq] at h
  exact h
theorem raw_wt {vs : List V} (h : WT Try.prog 3 23 vs) : ∃ (kind key field n : Int) (text : ByteArray), vs = [.lit (.int .i64 kind), .lit (.int .i64 key), .lit (.int .i64 field), .lit (.int .i64 n), .lit (.string text)] ∧
    i64 kind ∧ i64 key ∧ i64 field ∧ i64 n ∧ text.size ≤ maxLen := by
  simp [WT, ti23, ti3, ti9] at h
  obtain ⟨hl, ⟨a, ha, wa⟩, ⟨b, hb, wb⟩, ⟨c, hc, wc⟩, ⟨d, hd, wd⟩, ⟨s, he, we⟩⟩ := h
  match vs, hl with
  | [v0, v1, v2, v3, v4], _ =>
    simp at ha hb hc hd he
    subst ha hb hc hd he
    exact ⟨a, b, c, d, s, rfl, wf_i64 wa, wf_i64 wb, wf_i64 wc, wf_i64 wd, we⟩
theorem deed_wt {vs : List V} (h : WT Try.prog 4 25 vs) : ∃ (client off wait kind key field n : Int) (text : ByteArray), vs = [.lit (.int .i64 client), .lit (.int .i64 off), .lit (.int .i64 wait), .lit (.int .i64 kind), .lit (.int .i64 key), .lit (.int .i64 field), .lit (.int .i64 n), .lit (.string text)] ∧
    i64 client ∧ i64 off ∧ i64 wait ∧ i64 kind ∧ i64 key ∧ i64 field ∧ i64 n ∧ text.size ≤ maxLen := by
  obtain ⟨hl, hf⟩ := WT_struct ti25 rfl h
  obtain ⟨j0, e0, r0⟩ := hf (3, 0) (by simp)
  obtain ⟨j1, e1, r1⟩ := hf (3, 1) (by simp)
  obtain ⟨j2, e2, r2⟩ := hf (3, 2) (by simp)
  obtain ⟨j3, e3, r3⟩ := hf (23, 3) (by simp)
  rw [ti3] at e0 e1 e2
  rw [ti23] at e3
  cases e0; cases e1; cases e2; cases e3
  obtain ⟨a, b, c, d, s, q, k1, k2, k3, k4, k5⟩ := raw_wt r3
  simp [WT, ti3] at r0 r1 r2
  obtain ⟨x, hx, wx⟩ := r0
  obtain ⟨y, hy, wy⟩ := r1
  obtain ⟨z, hz, wz⟩ := r2
  match vs, hl with
  | [v0, v1, v2, v3, v4, v5, v6, v7], _ =>
    simp at hx hy hz q
    obtain ⟨rfl, rfl, rfl, rfl, rfl⟩ := q
    subst hx hy hz
    exact ⟨x, y, z, a, b, c, d, s, rfl, wf_i64 wx, wf_i64 wy, wf_i64 wz, k1, k2, k3, k4, k5⟩
end Go.Proofs.Ytniihihcklpdgaa
