/- The function CountRest answers true. -/
import Derived.Test.YtcfpphadlgbfdaaL1
set_option linter.unusedVariables false
set_option linter.unusedSimpArgs false
set_option maxRecDepth 100000
set_option maxHeartbeats 8000000
namespace Go.Proofs.Ytcfpphadlgbfdaa
open Go Go.RowKit Go.Proofs.AE
variable {G : Nat → AV}

def addC (n : Int) : Cmd := ⟨3, ⟨#[107]⟩, ⟨#[]⟩, ⟨#[]⟩, n⟩
def cntV (n : Int) : Val := ⟨2, ⟨#[]⟩, n, [], [], []⟩
theorem addC_ok {n : Int} (h : okCount n = true) : checkC (addC n) = 0 := by
  unfold checkC addC checkCommand
  simp only
  have h1 : okField ⟨#[107]⟩ = true := rfl
  have h2 : okText ⟨#[]⟩ = true := rfl
  simp [formOk, h, h1, h2]
theorem cntV_ok {n : Int} (h : okCount n = true) : OkV (cntV n) :=
  ⟨⟨(by show (1 : Int) ≤ 2; omega), (by show (2 : Int) ≤ 6; omega)⟩, .inr rfl, .inl rfl, .inr rfl, .inr (.inr rfl), .inr rfl, fun h => absurd h (by show ¬ (3 : Int) ≤ 2; omega), rfl, by simp [cntV], by simp [cntV], by simp [cntV], h, .nil, .nil, fun _ => .nil, .nil⟩
theorem cntV_small (n : Int) : (cntV n).Small := ⟨Nat.zero_le _, Nat.zero_le _, Nat.zero_le _⟩
theorem add_zero' {n : Int} (h : okCount n = true) : DoV zeroV (addC n) = (cntV n, toldR n, 0) := by
  rw [DoV_zero (addC_ok h) (by show (3 : Int) ≤ 18; omega), if_pos (show makesC _ = true from rfl)]
  have : doV ⟨kindOfC (addC n).kind, ⟨#[]⟩, 0, [], [], []⟩ (addC n) = (cntV n, toldR n) := by
    unfold doV
    simp [addC, h, cntV, kindOfC]
  rw [this]
  exact DoEnd_some rfl (fun h => absurd h.1 (by show ¬ (3 : Int) ≤ 2; omega))
theorem add_mism (m n : Int) : ¬ ((kindOfC (addC n).kind ≠ 0 ∧ kindOfC (addC n).kind ≠ (cntV m).kind) ∨ (17 ≤ (addC n).kind ∧ (cntV m).kind < 3)) := by
  simp [addC, cntV, kindOfC]
theorem add_more {m n : Int} (h1 : okCount m = true) (h2 : okCount n = true) (h : okCount (m + n) = true) : DoV (cntV m) (addC n) = (cntV (m + n), toldR (m + n), 0) := by
  rw [DoV_go (checkV_iff.2 (cntV_ok h1)) (addC_ok h2) (by show (3 : Int) ≤ 18; omega) (add_mism m n)]
  have : doV (cntV m) (addC n) = (cntV (m + n), toldR (m + n)) := by
    unfold doV
    simp [addC, h, cntV]
  rw [this]
  exact DoEnd_some rfl (fun h => absurd h.1 (by show ¬ (3 : Int) ≤ 2; omega))
theorem add_over {m n : Int} (h1 : okCount m = true) (h2 : okCount n = true) (h : okCount (m + n) = false) : DoV (cntV m) (addC n) = (cntV m, failR 7, 0) := by
  rw [DoV_go (checkV_iff.2 (cntV_ok h1)) (addC_ok h2) (by show (3 : Int) ≤ 18; omega) (add_mism m n)]
  have : doV (cntV m) (addC n) = (cntV m, failR 7) := by
    unfold doV
    simp [addC, h, cntV]
  rw [this]
  exact DoEnd_fail (by simp [failR])
theorem okCount_iff (n : Int) : okCount n = true ↔ -1099511627776 ≤ n ∧ n ≤ 1099511627776 := by
  unfold okCount; simp
end Go.Proofs.Ytcfpphadlgbfdaa
