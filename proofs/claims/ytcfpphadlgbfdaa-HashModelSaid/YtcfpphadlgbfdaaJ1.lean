/- What the library's functions on slices answer: comparing, inserting, deleting. -/
import Derived.Test.YtcfpphadlgbfdaaAeA
import Derived.Test.YtcfpphadlgbfdaaAeLoop
import Derived.Lib.Strings
import Derived.Lib.Slices
import Derived.Lib.Walk
import Derived.Lib.Bytealg
set_option linter.unusedVariables false
set_option linter.unusedSimpArgs false
set_option maxRecDepth 100000
set_option maxHeartbeats 8000000
namespace Go.Proofs.Ytcfpphadlgbfdaa
open Go Go.RowKit Go.Proofs.AE
variable {G : Nat → AV}

/-- Two strings compared. -/
def cmpB (a b : ByteArray) : Int := Lib.compareBytes a.data.toList b.data.toList
theorem compareString_w (a b : ByteArray) (w : World) :
    Calls Try.prog 51 #[.string a, .string b] w fun e w' => e = .returned (.int .i64 (cmpB a b)) ∧ w' = w := by
  go_enter Try.func51, Try.ntmps51
  go_wp2
  rw [run_callFunc_extern Try.func64 (by kernel_rfl) (by kernel_rfl) (by kernel_rfl) (e := Extern.BytealgCompare.compare) (by kernel_rfl), Lib.run_compareString]
  simp only [Result.andThen]
  rw [Oper.upon_value]
  go_wp2
  go_ret
  exact ⟨rfl, rfl⟩
theorem compareString_c (a b : ByteArray) : PCall Try.prog G 51 [sV a, sV b] (iV (cmpB a b)) := by
  intro w ok μ xs hr hg hargs
  cases hargs with | cons h1 ht =>
  cases ht with | cons h2 ht =>
  cases ht
  have e1 := lit_rel h1
  have e2 := lit_rel h2
  subst e1; subst e2
  refine (compareString_w a b w).mono ?_
  rintro e w' ⟨rfl, rfl⟩
  exact ⟨_, _, _, ok, μ, rfl, Step.refl hr, avlit rfl, List.eq_nil_of_length_eq_zero (by rw [← hr.len]; exact (by have := hr.len; simpa using this)), rfl⟩
theorem stringsCompare_c (a b : ByteArray) : PCall Try.prog G 35 [sV a, sV b] (iV (cmpB a b)) := by
  refine pcallc mixed Try.func35 ac_strings_Compare ?_
  repeat' (first | (with_reducible first | refine Cn (fun h => ?_) fun h => ?_ | refine And.intro ?_ ?_ | refine wR ?_ | exact wr _ _ | refine wa ?_ | apply awp_join | refine q (compareString_c _ _) ?_ | refine qd (compareString_c _ _) ?_ | refine qz (compareString_c _ _) ?_) | (with_reducible refine CallZ.z ?_) | simp -dsimp [go_sem])
theorem isNaNi_c (a : Int) : PCall Try.prog G 63 [iV a] (bV false) := by
  refine pcallc mixed Try.func63 ac_cmp_isNaN_int ?_
  simp -dsimp [go_sem]
theorem isNaNs_c (a : ByteArray) : PCall Try.prog G 75 [sV a] (bV false) := by
  refine pcallc mixed Try.func75 ac_cmp_isNaN_string ?_
  simp -dsimp [go_sem]
theorem isNaNs2_c (a : ByteArray) : PCall Try.prog G 70 [sV a] (bV false) := by
  refine pcallc mixed Try.func70 ac_slices_isNaN_string ?_
  simp -dsimp [go_sem]
/-- Two numbers compared. -/
def cmpI (a b : Int) : Int := if a < b then -1 else if a > b then 1 else 0
theorem cmpInt_c (a b : Int) : PCall Try.prog G 50 [iV a, iV b] (iV (cmpI a b)) := by
  refine pcallc mixed Try.func50 ac_cmp_Compare_int ?_
  unfold cmpI
  repeat' (first | (with_reducible first | refine Cn (fun h => ?_) fun h => ?_ | refine And.intro ?_ ?_ | refine wR ?_ | exact wr _ _ | refine wa ?_ | apply awp_join | refine q (isNaNi_c _) ?_ | refine qd (isNaNi_c _) ?_ | refine qz (isNaNi_c _) ?_) | (with_reducible refine CallZ.z ?_) | simp -dsimp [go_sem])
  all_goals (simp at *)
  all_goals (repeat' split) <;> first | rfl | omega
theorem lessS_c (a b : ByteArray) : PCall Try.prog G 69 [sV a, sV b] (bV (Op.bytesLess a.data.toList b.data.toList)) := by
  refine pcallc mixed Try.func69 ac_cmp_Less_string ?_
  repeat' (first | (with_reducible first | refine Cn (fun h => ?_) fun h => ?_ | refine And.intro ?_ ?_ | refine wR ?_ | exact wr _ _ | refine wa ?_ | apply awp_join | refine q (isNaNs_c _) ?_ | refine qd (isNaNs_c _) ?_ | refine qz (isNaNs_c _) ?_) | (with_reducible refine CallZ.z ?_) | simp -dsimp [go_sem])

/-! ### inserting and deleting -/
def insAt {α : Type} (l : List α) (i : Nat) (x : α) : List α := l.take i ++ x :: l.drop i
def delAt {α : Type} (l : List α) (i : Nat) : List α := l.take i ++ l.drop (i + 1)
end Go.Proofs.Ytcfpphadlgbfdaa
