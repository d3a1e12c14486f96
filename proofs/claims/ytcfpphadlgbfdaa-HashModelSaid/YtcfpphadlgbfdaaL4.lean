/- The function LastGone answers true. -/
import Derived.Test.YtcfpphadlgbfdaaL3
set_option linter.unusedVariables false
set_option linter.unusedSimpArgs false
set_option maxRecDepth 100000
set_option maxHeartbeats 8000000
namespace Go.Proofs.Ytcfpphadlgbfdaa
open Go Go.RowKit Go.Proofs.AE
variable {G : Nat → AV}

theorem one_made {c : Cmd} {v : Val} {r : Rep} (hc : checkC c = 0) (hm : makesC c.kind = true) (hd : doV ⟨kindOfC c.kind, ⟨#[]⟩, 0, [], [], []⟩ c = (v, r)) (h0 : r.code = 0) (h1 : v.els = 1) (h3 : 3 ≤ v.kind) : DoV zeroV c = (v, r, 0) ∧ OkV v := by
  have hk : c.kind ≤ 18 := by
    unfold makesC at hm
    simp at hm
    omega
  have e : DoV zeroV c = (v, r, 0) := by
    rw [DoV_zero hc hk, if_pos hm, hd]
    exact DoEnd_some h0 (fun h => by have := h.2; simp only at this; omega)
  refine ⟨e, ?_⟩
  have := (DoV_vk (.inr rfl) hc hk).2
  rw [e] at this
  rcases this with h | h
  · exact h
  · simp only at h
    rw [h] at h3
    exact absurd h3 (by show ¬ (3 : Int) ≤ 0; omega)
theorem last_gone {c : Cmd} {v w : Val} {r : Rep} (ok : OkV v) (hc : checkC c = 0) (hk : c.kind ≤ 16) (hv : kindOfC c.kind = v.kind) (hd : doV v c = (w, r)) (h0 : r.code = 0) (h1 : w.els = 0) (h3 : 3 ≤ w.kind) : DoV v c = (zeroV, r, 0) := by
  rw [DoV_go (checkV_iff.2 ok) hc (by omega) (by
    simp only [not_or, not_and, Classical.not_not]
    exact ⟨fun _ => hv, fun h => by omega⟩), hd]
  exact DoEnd_none h0 h3 h1
end Go.Proofs.Ytcfpphadlgbfdaa
