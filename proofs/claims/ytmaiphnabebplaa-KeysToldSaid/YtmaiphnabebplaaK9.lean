/- Few texts: nine. -/
import Derived.Test.YtmaiphnabebplaaD
set_option linter.unusedVariables false
set_option linter.unusedSimpArgs false
set_option maxRecDepth 100000
set_option maxHeartbeats 8000000
namespace Go.Proofs.Ytmaiphnabebplaa
open Go Go.RowKit Go.Proofs.AE
/-! ### few -/
theorem nodup_le {α : Type} [DecidableEq α] : ∀ (l m : List α), l.Pairwise (· ≠ ·) → (∀ x ∈ l, x ∈ m) → l.length ≤ m.length
  | [], m, _, _ => Nat.zero_le _
  | x :: l, m, h, hm => by
    obtain ⟨h1, h2⟩ := List.pairwise_cons.1 h
    have hx := hm x (List.mem_cons_self ..)
    have := nodup_le l (m.erase x) h2 fun y hy => (List.mem_erase_of_ne fun e => h1 y hy e.symm).2 (hm y (List.mem_cons_of_mem _ hy))
    have hl := List.length_erase_of_mem hx
    have hp := List.length_pos_of_mem hx
    simp only [List.length_cons]; omega
def nine : List ByteArray := (List.range 9).map fun i => ⟨#[UInt8.ofNat (97 + i)]⟩
theorem some_nine (n : Int) : someS n ∈ nine := by
  have hp := pk_range (n := n) (m := 9) (by omega)
  unfold someS nine
  refine List.mem_map.2 ⟨(pk n 9).toNat, List.mem_range.2 (by omega), ?_⟩
  rw [show (97 + pk n 9).toNat = 97 + (pk n 9).toNat by omega]
end Go.Proofs.Ytmaiphnabebplaa
