/- The functions NoneTold, CountRest and CommandBare answer true. -/
import Derived.Test.YtcfpphadlgbfdaaJ15
set_option linter.unusedVariables false
set_option linter.unusedSimpArgs false
set_option maxRecDepth 100000
set_option maxHeartbeats 8000000
namespace Go.Proofs.Ytcfpphadlgbfdaa
open Go Go.RowKit Go.Proofs.AE
variable {G : Nat → AV}

theorem noneBig {c : Cmd} (hc : checkC c = 0) (hk : 18 < c.kind) : DoV zeroV c = (zeroV, toldR 0, 3) := by
  unfold DoV
  rw [zero_none]
  simp only [Bool.true_eq_false, and_false, if_false]
  rw [if_neg (by rw [hc]; simp), if_pos hk]
theorem okCount_tmod (n : Int) : okCount (n.tmod 1073741824) = true := by
  have h1 := Int.tmod_lt_of_pos n (b := 1073741824) (by omega)
  have h2 : -1073741824 < n.tmod 1073741824 := by
    rcases Int.le_total 0 n with h | h
    · have := Int.tmod_nonneg 1073741824 h; omega
    · have h3 := Int.tmod_lt_of_pos (-n) (b := 1073741824) (by omega)
      rw [Int.neg_tmod] at h3
      omega
  simp only [okCount, Bool.and_eq_true, decide_eq_true_eq]
  omega
/-- What makes something where there is nothing. -/
theorem noneMade {c : Cmd} (hc : checkC c = 0) (hm : makesC c.kind = true) : ∃ w r, DoV zeroV c = (w, r, 0) ∧ w.kind ≠ 0 ∧ r.code = 0 := by
  have hk : c.kind = 1 ∨ c.kind = 3 ∨ c.kind = 4 ∨ c.kind = 7 ∨ c.kind = 8 ∨ c.kind = 11 ∨ c.kind = 14 := by
    unfold makesC at hm; simp at hm; omega
  obtain ⟨_, _, _, hn, _⟩ := checkC_facts hc
  rw [DoV_zero hc (by omega), if_pos hm]
  have key : ∀ q : Val × Rep, q.2.code = 0 → q.1.kind ≠ 0 → (3 ≤ q.1.kind → q.1.els ≠ 0) → ∃ w r, DoEnd zeroV q = (w, r, 0) ∧ w.kind ≠ 0 ∧ r.code = 0 := by
    intro q h1 h2 h3
    exact ⟨q.1, q.2, DoEnd_some h1 (fun h => h3 h.1 h.2), h2, h1⟩
  have ins : ∀ {α : Type} (x : α), insAt [] 0 x = [x] := fun x => by simp [insAt]
  rcases hk with h | h | h | h | h | h | h
  · refine key _ ?_ ?_ ?_ <;> (unfold doV; simp [h, toldR])
  · have h0 : okCount (0 + c.n) = true := by rw [Int.zero_add]; exact hn
    refine key _ ?_ ?_ ?_ <;> (unfold doV; simp [h, toldR, h0, hn, kindOfC])
  · have h1 : hashIn [] c.field = false := rfl
    have h2 : hashAt [] c.field = 0 := rfl
    refine key _ ?_ ?_ ?_ <;> (unfold doV hashV; simp [h, toldR, kindOfC, h1, h2, ins, Val.els])
  · refine key _ ?_ ?_ ?_ <;> (unfold doV listV; simp [h, toldR, kindOfC, Val.els])
  · refine key _ ?_ ?_ ?_ <;> (unfold doV listV; simp [h, toldR, kindOfC, Val.els])
  · have h1 : setIn [] c.text = false := rfl
    have h2 : setAt [] c.text = 0 := rfl
    refine key _ ?_ ?_ ?_ <;> (unfold doV setV; simp [h, toldR, kindOfC, h1, h2, ins, Val.els])
  · have h1 : rankOf [] c.text = -1 := rfl
    have h2 : rankCut [] c.text = [] := rfl
    have h3 : rankAt [] c.text c.n = 0 := rfl
    refine key _ ?_ ?_ ?_ <;> (unfold doV ranksV; simp [h, toldR, kindOfC, h1, h2, h3, ins, Val.els])
theorem zeroA : (AV.agg zeroV.c) = .agg [iC 0, sC ⟨#[]⟩, iC 0, .v (.sl []), .v (.sl []), .v (.sl [])] := rfl
end Go.Proofs.Ytcfpphadlgbfdaa
