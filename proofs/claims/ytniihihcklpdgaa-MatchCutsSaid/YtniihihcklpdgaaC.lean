/- What the searches of a slice answer. -/
import Derived.Test.YtniihihcklpdgaaB
import Derived.Test.YtniihihcklpdgaaAeLoop
set_option linter.unusedVariables false
set_option linter.unusedSimpArgs false
set_option maxRecDepth 100000
set_option maxHeartbeats 8000000
namespace Go.Proofs.Ytniihihcklpdgaa
open Go Go.RowKit Go.Proofs.AE
variable {G : Nat → AV}
abbrev strRows (l : List ByteArray) : List (List V) := l.map fun s => [V.lit (.string s)]
def firstIdx (p : ByteArray → Bool) : Nat → List ByteArray → Int
  | _, [] => -1
  | i, s :: l => if p s then (i : Int) else firstIdx p (i + 1) l
theorem firstIdx_drop (p : ByteArray → Bool) (l : List ByteArray) {i : Nat} (h : i < l.length) : firstIdx p i (l.drop i) = if p l[i] then (i : Int) else firstIdx p (i + 1) (l.drop (i + 1)) := by
  rw [List.drop_eq_getElem_cons h]; rfl
theorem firstIdx_ge (p : ByteArray → Bool) : ∀ (l : List ByteArray) (i : Nat), (decide (0 ≤ firstIdx p i l)) = l.any p
  | [], _ => by simp [firstIdx]
  | s :: l, i => by
    simp only [firstIdx, List.any_cons]
    by_cases h : p s = true
    · simp [h]
    · have h' : p s = false := by simpa using h
      simpa [h'] using firstIdx_ge p l (i + 1)
/-- What CheckReply answers. -/
def checkReply (code : Int) (text : ByteArray) (n : Int) (l : List ByteArray) : Int :=
  if decide (code < 0) then 3 else if decide (13 < code) then 3 else if decide (20 < (text.size : Int)) then 1 else if decide (20 < (l.length : Int)) then 1
  else if l.any (fun s => decide (20 < (s.size : Int))) then 1 else if decide (n < -1099511627776) then 2 else if decide (1099511627776 < n) then 2 else 0
end Go.Proofs.Ytniihihcklpdgaa
