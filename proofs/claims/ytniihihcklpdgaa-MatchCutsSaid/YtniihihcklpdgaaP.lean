/- The functions rostrumkeep.LastTold and TermTold answer true. -/
import Derived.Test.YtniihihcklpdgaaN
set_option linter.unusedVariables false
set_option linter.unusedSimpArgs false
set_option maxRecDepth 100000
set_option maxHeartbeats 8000000
namespace Go.Proofs.Ytniihihcklpdgaa
open Go Go.RowKit Go.Proofs.AE
variable {G : Nat → AV}
theorem termAt_last (B T : Int) (x : List Item) : termAt B T x (B + x.length) = lastTerm T x := by
  unfold termAt lastTerm
  rw [if_neg (by omega)]
  by_cases h : x.length = 0
  · rw [if_pos (by omega)]
    rw [List.getElem?_eq_none (by omega)]
  · rw [if_neg (by omega), if_neg (by omega)]
    rw [show (B + (x.length : Int) - B - 1).toNat = x.length - 1 by omega, List.getElem?_eq_getElem (by omega)]
end Go.Proofs.Ytniihihcklpdgaa
