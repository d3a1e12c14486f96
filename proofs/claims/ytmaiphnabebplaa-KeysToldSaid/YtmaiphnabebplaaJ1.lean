/- What the library's functions on slices answer: comparing, inserting, deleting. -/
import Derived.Test.YtmaiphnabebplaaAeA
import Derived.Test.YtmaiphnabebplaaAeLoop
import Derived.Lib.Strings
import Derived.Lib.Slices
import Derived.Lib.Walk
import Derived.Lib.Bytealg
set_option linter.unusedVariables false
set_option linter.unusedSimpArgs false
set_option maxRecDepth 100000
set_option maxHeartbeats 8000000
namespace Go.Proofs.Ytmaiphnabebplaa
open Go Go.RowKit Go.Proofs.AE
variable {G : Nat → AV}

/-- Two strings compared. -/
def cmpB (a b : ByteArray) : Int := Lib.compareBytes a.data.toList b.data.toList
theorem compareString_w (a b : ByteArray) (w : World) :
    Calls Try.prog 80 #[.string a, .string b] w fun e w' => e = .returned (.int .i64 (cmpB a b)) ∧ w' = w := by
  go_enter Try.func80, Try.ntmps80
  go_wp2
  rw [run_callFunc_extern Try.func95 (by kernel_rfl) (by kernel_rfl) (by kernel_rfl) (e := Extern.BytealgCompare.compare) (by kernel_rfl), Lib.run_compareString]
  simp only [Result.andThen]
  rw [Oper.upon_value]
  go_wp2
  go_ret
  exact ⟨rfl, rfl⟩
theorem compareString_c (a b : ByteArray) : PCall Try.prog G 80 [sV a, sV b] (iV (cmpB a b)) := by
  intro w ok μ xs hr hg hargs
  cases hargs with | cons h1 ht =>
  cases ht with | cons h2 ht =>
  cases ht
  have e1 := lit_rel h1
  have e2 := lit_rel h2
  subst e1; subst e2
  refine (compareString_w a b w).mono ?_
  rintro e w' ⟨rfl, rfl⟩
  exact ⟨_, _, _, ok, μ, rfl, Step.refl hr, avlit rfl, List.eq_nil_of_length_eq_zero (by rw [← hr.len]; exact (by have := hr.len; simpa using this)), rfl⟩
theorem stringsCompare_c (a b : ByteArray) : PCall Try.prog G 63 [sV a, sV b] (iV (cmpB a b)) := by
  refine pcall mixed Try.func63 ok_strings_Compare rs_strings_Compare (by simp [Try.f63]) ?_
  unfold ac_strings_Compare
  repeat' (first | (with_reducible first | refine Cnd.intro (fun h => ?_) (fun h => ?_) | refine And.intro ?_ ?_ | refine Wk.refl ?_ | exact Weak.refl _ _ | refine weak_auto ?_ | apply awp_join) | ((try with_reducible refine CallZ.l ?_); with_reducible refine qcf (by first | exact compareString_c _ _) ?_ ?_) | ((try with_reducible refine CallZ.l ?_); with_reducible refine qcn (by first | exact qkc (compareString_c _ _) (by with_unfolding_all rfl)) ?_) | ((with_reducible refine qcz (by first | exact qkz (compareString_c _ _) (by with_unfolding_all rfl)) ?_); intro zh1 zq1; (try simp -dsimp [go_sem] at zq1); obtain ⟨rfl⟩ := zq1) | (with_reducible refine CallZ.z ?_) | simp -dsimp [go_sem])
theorem isNaNi_c (a : Int) : PCall Try.prog G 94 [iV a] (bV false) := by
  refine pcall mixed Try.func94 ok_cmp_isNaN_int rs_cmp_isNaN_int (by simp [Try.f94]) ?_
  unfold ac_cmp_isNaN_int
  simp -dsimp [go_sem]
theorem isNaNs_c (a : ByteArray) : PCall Try.prog G 107 [sV a] (bV false) := by
  refine pcall mixed Try.func107 ok_cmp_isNaN_string rs_cmp_isNaN_string (by simp [Try.f107]) ?_
  unfold ac_cmp_isNaN_string
  simp -dsimp [go_sem]
theorem isNaNs2_c (a : ByteArray) : PCall Try.prog G 101 [sV a] (bV false) := by
  refine pcall mixed Try.func101 ok_slices_isNaN_string rs_slices_isNaN_string (by simp [Try.f101]) ?_
  unfold ac_slices_isNaN_string
  simp -dsimp [go_sem]
/-- Two numbers compared. -/
def cmpI (a b : Int) : Int := if a < b then -1 else if a > b then 1 else 0
theorem cmpInt_c (a b : Int) : PCall Try.prog G 79 [iV a, iV b] (iV (cmpI a b)) := by
  refine pcall mixed Try.func79 ok_cmp_Compare_int rs_cmp_Compare_int (by simp [Try.f79]) ?_
  unfold ac_cmp_Compare_int
  unfold cmpI
  repeat' (first | (with_reducible first | refine Cnd.intro (fun h => ?_) (fun h => ?_) | refine And.intro ?_ ?_ | refine Wk.refl ?_ | exact Weak.refl _ _ | refine weak_auto ?_ | apply awp_join) | ((try with_reducible refine CallZ.l ?_); with_reducible refine qcf (by first | exact isNaNi_c _) ?_ ?_) | ((try with_reducible refine CallZ.l ?_); with_reducible refine qcn (by first | exact qkc (isNaNi_c _) (by with_unfolding_all rfl)) ?_) | ((with_reducible refine qcz (by first | exact qkz (isNaNi_c _) (by with_unfolding_all rfl)) ?_); intro zh1 zq1; (try simp -dsimp [go_sem] at zq1); obtain ⟨rfl⟩ := zq1) | (with_reducible refine CallZ.z ?_) | simp -dsimp [go_sem])
  all_goals (simp at *)
  all_goals (repeat' split) <;> first | rfl | omega
theorem lessS_c (a b : ByteArray) : PCall Try.prog G 100 [sV a, sV b] (bV (Op.bytesLess a.data.toList b.data.toList)) := by
  refine pcall mixed Try.func100 ok_cmp_Less_string rs_cmp_Less_string (by simp [Try.f100]) ?_
  unfold ac_cmp_Less_string
  repeat' (first | (with_reducible first | refine Cnd.intro (fun h => ?_) (fun h => ?_) | refine And.intro ?_ ?_ | refine Wk.refl ?_ | exact Weak.refl _ _ | refine weak_auto ?_ | apply awp_join) | ((try with_reducible refine CallZ.l ?_); with_reducible refine qcf (by first | exact isNaNs_c _) ?_ ?_) | ((try with_reducible refine CallZ.l ?_); with_reducible refine qcn (by first | exact qkc (isNaNs_c _) (by with_unfolding_all rfl)) ?_) | ((with_reducible refine qcz (by first | exact qkz (isNaNs_c _) (by with_unfolding_all rfl)) ?_); intro zh1 zq1; (try simp -dsimp [go_sem] at zq1); obtain ⟨rfl⟩ := zq1) | (with_reducible refine CallZ.z ?_) | simp -dsimp [go_sem])

/-! ### inserting and deleting -/
def insAt {α : Type} (l : List α) (i : Nat) (x : α) : List α := l.take i ++ x :: l.drop i
def delAt {α : Type} (l : List α) (i : Nat) : List α := l.take i ++ l.drop (i + 1)
end Go.Proofs.Ytmaiphnabebplaa
