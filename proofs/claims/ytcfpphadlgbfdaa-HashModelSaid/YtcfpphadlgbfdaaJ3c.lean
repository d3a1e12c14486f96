/- What Check answers of a value. -/
import Derived.Test.YtcfpphadlgbfdaaJ3a
import Derived.Test.YtcfpphadlgbfdaaJ3b
set_option linter.unusedVariables false
set_option linter.unusedSimpArgs false
set_option maxRecDepth 100000
set_option maxHeartbeats 8000000
namespace Go.Proofs.Ytcfpphadlgbfdaa
open Go Go.RowKit Go.Proofs.AE
variable {G : Nat → AV}
theorem checkV_c (v : Val) (hs : v.Small) : PCall Try.prog G 13 [.agg v.c] (iV (checkV v)) := by
  have hk : v.kind < 1 ∨ 6 < v.kind ∨ v.kind = 1 ∨ v.kind = 2 ∨ v.kind = 3 ∨ v.kind = 4 ∨ v.kind = 5 ∨ v.kind = 6 := by omega
  rcases hk with hk | hk | hk | hk | hk | hk | hk | hk
  · refine pcallc mixed Try.func13 ac_value_Check ?_
    simp -dsimp [go_sem, hk, checkV, Val.c]
  · refine pcallc mixed Try.func13 ac_value_Check ?_
    have h' : ¬ v.kind < 1 := by omega
    simp -dsimp [go_sem, hk, h', checkV, Val.c]
  · exact checkK1_c v hs hk
  · exact checkK2_c v hs hk
  · exact checkK3_c v hs hk
  · exact checkK4_c v hs hk
  · exact checkK5_c v hs hk
  · exact checkK6_c v hs hk
end Go.Proofs.Ytcfpphadlgbfdaa
