/- What is given from outside, by its type. -/
import Derived.Test.YtmaiphnabebplaaGreatDoorD
set_option linter.unusedVariables false
set_option linter.unusedSimpArgs false
set_option maxRecDepth 100000
set_option maxHeartbeats 8000000
namespace Go.Proofs.YtmaiphnabebplaaGreatDoor
open Go Go.RowKit Go.Proofs.AE
theorem wf_i64 {n : Int} (h : (Lit.int .i64 n).wf = true) : i64 n := by
  rw [Lit.wf] at h
  simp only [Bool.and_eq_true, decide_eq_true_eq] at h
  exact h
theorem raw_wt {vs : List V} (h : WT Tryz.prog 3 24 vs) : ∃ (kind key field n : Int) (text : ByteArray), vs = [.lit (.int .i64 kind), .lit (.int .i64 key), .lit (.int .i64 field), .lit (.int .i64 n), .lit (.string text)] ∧
    i64 kind ∧ i64 key ∧ i64 field ∧ i64 n ∧ text.size ≤ maxLen := by
  simp [WT, ti24, ti3, ti9] at h
  obtain ⟨hl, ⟨a, ha, wa⟩, ⟨b, hb, wb⟩, ⟨c, hc, wc⟩, ⟨d, hd, wd⟩, ⟨s, he, we⟩⟩ := h
  match vs, hl with
  | [v0, v1, v2, v3, v4], _ =>
    simp at ha hb hc hd he
    subst ha hb hc hd he
    exact ⟨a, b, c, d, s, rfl, wf_i64 wa, wf_i64 wb, wf_i64 wc, wf_i64 wd, we⟩
theorem deed_wt {vs : List V} (h : WT Tryz.prog 4 26 vs) : ∃ (client off wait kind key field n : Int) (text : ByteArray), vs = [.lit (.int .i64 client), .lit (.int .i64 off), .lit (.int .i64 wait), .lit (.int .i64 kind), .lit (.int .i64 key), .lit (.int .i64 field), .lit (.int .i64 n), .lit (.string text)] ∧
    i64 client ∧ i64 off ∧ i64 wait ∧ i64 kind ∧ i64 key ∧ i64 field ∧ i64 n ∧ text.size ≤ maxLen := by
  obtain ⟨hl, hf⟩ := WT_struct ti26 rfl h
  obtain ⟨j0, e0, r0⟩ := hf (3, 0) (by simp)
  obtain ⟨j1, e1, r1⟩ := hf (3, 1) (by simp)
  obtain ⟨j2, e2, r2⟩ := hf (3, 2) (by simp)
  obtain ⟨j3, e3, r3⟩ := hf (24, 3) (by simp)
  rw [ti3] at e0 e1 e2
  rw [ti24] at e3
  cases e0; cases e1; cases e2; cases e3
  obtain ⟨a, b, c, d, s, q, k1, k2, k3, k4, k5⟩ := raw_wt r3
  simp [WT, ti3] at r0 r1 r2
  obtain ⟨x, hx, wx⟩ := r0
  obtain ⟨y, hy, wy⟩ := r1
  obtain ⟨z, hz, wz⟩ := r2
  match vs, hl with
  | [v0, v1, v2, v3, v4, v5, v6, v7], _ =>
    simp at hx hy hz q
    obtain ⟨rfl, rfl, rfl, rfl, rfl⟩ := q
    subst hx hy hz
    exact ⟨x, y, z, a, b, c, d, s, rfl, wf_i64 wx, wf_i64 wy, wf_i64 wz, k1, k2, k3, k4, k5⟩
structure Deed where
  client : Int
  off : Int
  wait : Int
  kind : Int
  key : Int
  field : Int
  n : Int
  text : ByteArray
abbrev iL (n : Int) : V := .lit (.int .i64 n)
abbrev sL (s : ByteArray) : V := .lit (.string s)
def Deed.row (d : Deed) : List V := [iL d.client, iL d.off, iL d.wait, iL d.kind, iL d.key, iL d.field, iL d.n, sL d.text]
structure Deed.Ok (d : Deed) : Prop where
  client : i64 d.client
  off : i64 d.off
  wait : i64 d.wait
  kind : i64 d.kind
  key : i64 d.key
  field : i64 d.field
  n : i64 d.n
theorem deeds_of : ∀ (rows : List (List V)), (∀ r ∈ rows, WT Tryz.prog 4 26 r) → ∃ ds : List Deed, rows = ds.map Deed.row ∧ ∀ d ∈ ds, d.Ok
  | [], _ => ⟨[], rfl, fun d h => by cases h⟩
  | r :: rows, h => by
    obtain ⟨ds, h1, h2⟩ := deeds_of rows fun r hr => h r (List.mem_cons_of_mem _ hr)
    obtain ⟨client, off, wait, kind, key, field, n, text, rfl, a, b, c, d, e, f, g, _⟩ := deed_wt (h r (List.mem_cons_self ..))
    refine ⟨⟨client, off, wait, kind, key, field, n, text⟩ :: ds, by rw [h1]; rfl, fun x hx => ?_⟩
    rcases List.mem_cons.1 hx with rfl | hx
    · exact ⟨a, b, c, d, e, f, g⟩
    · exact h2 x hx
end Go.Proofs.YtmaiphnabebplaaGreatDoor
