/- The function rostrumkeep.CommandSize answers true, whatever its arguments. -/
import Derived.Test.YtcfpphadlgbfdaaAeA
set_option linter.unusedVariables false
set_option linter.unusedSimpArgs false
set_option maxRecDepth 100000
set_option maxHeartbeats 8000000
namespace Go.Proofs.Ytcfpphadlgbfdaa
open Go Go.RowKit Go.Proofs.AE
variable {G : Nat → AV}
theorem bytesOf_zero : ∀ n : Nat, bytesOf (List.replicate n [V.lit (.int .u8 0)]) = some (List.replicate n 0)
  | 0 => rfl
  | n + 1 => by simp [List.replicate_succ, bytesOf, AE.byteOf, bytesOf_zero n]
theorem zsize {k : Int} (h : 0 ≤ k) : (((⟨Array.replicate k.toNat 0⟩ : ByteArray).size : Nat) : Int) = k := by
  have : (⟨Array.replicate k.toNat 0⟩ : ByteArray).size = k.toNat := by show (Array.replicate k.toNat (0 : UInt8)).size = _; simp
  rw [this]; omega
theorem empty_ok : okText (⟨#[]⟩ : ByteArray) = true ∧ okField (⟨#[107]⟩ : ByteArray) = true := by decide
end Go.Proofs.Ytcfpphadlgbfdaa
