/- The function rostrumkeep.ItemBad answers true. -/
import Derived.Test.YtniihihcklpdgaaF
set_option linter.unusedVariables false
set_option linter.unusedSimpArgs false
set_option maxRecDepth 100000
set_option maxHeartbeats 8000000
namespace Go.Proofs.Ytniihihcklpdgaa
open Go Go.RowKit Go.Proofs.AE
variable {G : Nat → AV}
theorem callGood {client off kind key field n : Int} {text : ByteArray} (h4 : i64 n) : ∀ c s k a b d m, itemCall client off kind key field n text = [iC c, iC s, iC k, sC a, sC b, sC d, iC m] → checkCall c s k a b d m = 0 := by
  intro c s k a b d m h
  have r2 := pk_range (n := client) (m := 50) (by omega)
  have r3 := pk_range (n := off) (m := 100) (by omega)
  unfold itemCall at h
  split at h
  · simp only [List.cons.injEq, C.v.injEq, V.lit.injEq, Value.int.injEq, Value.string.injEq, and_true, true_and] at h
    obtain ⟨rfl, rfl, rfl, rfl, rfl, rfl, rfl⟩ := h
    decide
  · simp only [List.cons.injEq, C.v.injEq, V.lit.injEq, Value.int.injEq, true_and] at h
    obtain ⟨rfl, rfl, h⟩ := h
    have hc := cmd_ok kind key field n text h4 k a b d m h
    have h1 : okNumber (pk client 50 + 1) = true := by simp only [okNumber, Bool.and_eq_true, decide_eq_true_eq]; omega
    have h2 : okNumber (1 + pk off 100) = true := by simp only [okNumber, Bool.and_eq_true, decide_eq_true_eq]; omega
    have h3 : ¬ pk client 50 + 1 = 0 := by omega
    simp [checkCall, h1, h2, h3, hc]
end Go.Proofs.Ytniihihcklpdgaa
