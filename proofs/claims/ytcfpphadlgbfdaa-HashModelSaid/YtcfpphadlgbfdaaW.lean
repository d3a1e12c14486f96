/- What is given from outside, by its type. -/
import Derived.Test.YtcfpphadlgbfdaaD
set_option linter.unusedVariables false
set_option linter.unusedSimpArgs false
set_option maxRecDepth 100000
set_option maxHeartbeats 8000000
namespace Go.Proofs.Ytcfpphadlgbfdaa
open Go Go.RowKit Go.Proofs.AE
theorem wf_i64 {n : Int} (h : (Lit.int .i64 n).wf = true) : i64 n := by
  rw [Lit.wf] at h
  simp only [Bool.and_eq_true, decide_eq_true_eq] at h
  exact h
theorem raw_wt {vs : List V} (h : WT Try.prog 3 32 vs) : ∃ (kind key field n : Int) (text : ByteArray), vs = [.lit (.int .i64 kind), .lit (.int .i64 key), .lit (.int .i64 field), .lit (.int .i64 n), .lit (.string text)] ∧
    i64 kind ∧ i64 key ∧ i64 field ∧ i64 n ∧ text.size ≤ maxLen := by
  simp [WT, ti32, ti3, ti9] at h
  obtain ⟨hl, ⟨a, ha, wa⟩, ⟨b, hb, wb⟩, ⟨c, hc, wc⟩, ⟨d, hd, wd⟩, ⟨s, he, we⟩⟩ := h
  match vs, hl with
  | [v0, v1, v2, v3, v4], _ =>
    simp at ha hb hc hd he
    subst ha hb hc hd he
    exact ⟨a, b, c, d, s, rfl, wf_i64 wa, wf_i64 wb, wf_i64 wc, wf_i64 wd, we⟩
structure Deed where
  client : Int
  off : Int
  wait : Int
  kind : Int
  key : Int
  field : Int
  n : Int
  text : ByteArray
abbrev iL (n : Int) : V := .lit (.int .i64 n)
abbrev sL (s : ByteArray) : V := .lit (.string s)
def Deed.row (d : Deed) : List V := [iL d.client, iL d.off, iL d.wait, iL d.kind, iL d.key, iL d.field, iL d.n, sL d.text]
structure Deed.Ok (d : Deed) : Prop where
  client : i64 d.client
  off : i64 d.off
  wait : i64 d.wait
  kind : i64 d.kind
  key : i64 d.key
  field : i64 d.field
  n : i64 d.n
end Go.Proofs.Ytcfpphadlgbfdaa
