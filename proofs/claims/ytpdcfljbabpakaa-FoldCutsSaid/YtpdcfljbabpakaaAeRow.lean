/- The abstract evaluator: AeRow. -/
import Derived.Test.YtpdcfljbabpakaaAeRun
/- The abstract evaluator, part 20: from a function's contract to a row. -/
set_option linter.unusedVariables false
set_option linter.unusedSimpArgs false
namespace Go.Proofs.AE
open Go Go.RowKit

section
variable {P : Program} {W : World}

theorem below_of {ok ok' : Nat → Prop} {μ' : List MB} {hp' : Hp} {w' : World} (h : Step W ok [] [] w' ok' μ' hp') : Below W.heap.size W w' :=
  ⟨h.os, h.tape, h.output, h.size, fun k hk => h.frame k hk not_own_nil⟩

/-- A contract at a call from outside. -/
theorem PCall.run {G : Nat → AV} {ok : Nat → Prop} {f : Nat} {args : List AV} {xs : List Value} {b : Bool} (h : PCall P G f args (.one (.v (.lit (.bool b))))) (hok : ∀ b, ok b → b < W.heap.size) (hg : GRel W ok G) (hargs : AVRels W ok [] args xs) :
    Calls P f xs.toArray W fun e W' => e = .returned (.bool b) ∧ Below W.heap.size W W' := by
  refine (h W ok [] xs (hr_nil hok) hg hargs).mono ?_
  rintro e w' ⟨x, r, hp', ok', μ', rfl, hs, hr, rfl, rfl⟩
  have := lit_rel hr
  subst this
  exact ⟨rfl, below_of hs⟩

/-- A function that names no variable of the package. -/
theorem gany (ok : Nat → Prop) : GRel W ok (fun _ => .any) := fun _ _ => .any
end
end Go.Proofs.AE

