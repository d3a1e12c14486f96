/- The function rostrumkeep.CommandSize answers true, whatever its arguments. -/
import Derived.Test.YtlgcebeianjaiaaAeA
set_option linter.unusedVariables false
set_option linter.unusedSimpArgs false
set_option maxRecDepth 100000
set_option maxHeartbeats 8000000
namespace Go.Proofs.Ytlgcebeianjaiaa
open Go Go.RowKit Go.Proofs.AE
variable {G : Nat → AV}
theorem bytesOf_zero : ∀ n : Nat, bytesOf (List.replicate n [V.lit (.int .u8 0)]) = some (List.replicate n 0)
  | 0 => rfl
  | n + 1 => by simp [List.replicate_succ, bytesOf, AE.byteOf, bytesOf_zero n]
theorem zsize {k : Int} (h : 0 ≤ k) : (((⟨Array.replicate k.toNat 0⟩ : ByteArray).size : Nat) : Int) = k := by
  have : (⟨Array.replicate k.toNat 0⟩ : ByteArray).size = k.toNat := by show (Array.replicate k.toNat (0 : UInt8)).size = _; simp
  rw [this]; omega
theorem empty_ok : okText (⟨#[]⟩ : ByteArray) = true ∧ okField (⟨#[107]⟩ : ByteArray) = true := by decide
theorem commandSize_c (n m : Int) (hn : i64 n) (hm : i64 m) : PCall Try.prog G 4 [iV n, iV m] (bV true) := by
  refine pcall mixed Try.func4 ok_rostrumkeep_CommandSize rs_rostrumkeep_CommandSize (by simp [Try.f4]) ?_
  unfold ac_rostrumkeep_CommandSize
  have hk := pk_range (n := n) (m := 30) (by omega)
  have hj := pk_range (n := m) (m := 3) (by omega)
  have f1 : checkCommand 2 ⟨Array.replicate (pk n 30).toNat 0⟩ ⟨#[]⟩ ⟨#[]⟩ 0 = if 1 ≤ pk n 30 ∧ pk n 30 ≤ 12 then 0 else 1 := by
    simp only [checkCommand, formOk, empty_ok, okField, zsize hk.1]
    by_cases h1 : 1 ≤ pk n 30 <;> by_cases h2 : pk n 30 ≤ 12 <;> simp [h1, h2, okCount]
  have f2 : checkCommand 1 ⟨#[107]⟩ ⟨#[]⟩ ⟨Array.replicate (pk n 30).toNat 0⟩ 0 = if pk n 30 ≤ 20 then 0 else 1 := by
    simp only [checkCommand, formOk, empty_ok, okText, zsize hk.1]
    by_cases h1 : pk n 30 ≤ 20 <;> simp [h1, okCount]
  have f3 : checkCommand 5 ⟨#[107]⟩ ⟨Array.replicate (pk n 30).toNat 0⟩ ⟨#[]⟩ 0 = if 1 ≤ pk n 30 ∧ pk n 30 ≤ 12 then 0 else 1 := by
    simp only [checkCommand, formOk, empty_ok]
    simp only [okField, zsize hk.1]
    by_cases h1 : 1 ≤ pk n 30 <;> by_cases h2 : pk n 30 ≤ 12 <;> simp [h1, h2, okCount]
  have f4 : checkCommand 3 ⟨#[107]⟩ ⟨#[]⟩ ⟨#[]⟩ (IntKind.i64.wrap (IntKind.i64.wrap (1099511627776 + pk m 3) - 1)) = if pk m 3 = 2 then 2 else 0 := by
    rw [IntWalk.i64_in (1099511627776 + pk m 3) (by omega), IntWalk.i64_in _ (by omega)]
    simp only [checkCommand, formOk, empty_ok, okCount]
    by_cases h1 : pk m 3 = 2
    · simp [h1]
    · have h2 : 1099511627776 + pk m 3 - 1 ≤ 1099511627776 := by omega
      have h3 : (-1099511627776 : Int) ≤ 1099511627776 + pk m 3 - 1 := by omega
      simp [h1, h2, h3]
  repeat' (first
    | (with_reducible refine Cnd.intro (fun h => ?_) (fun h => ?_))
    | (with_reducible refine And.intro ?_ ?_)
    | (with_reducible refine Wk.refl ?_)
    | (with_reducible exact Weak.refl _ _)
    | (with_reducible refine weak_auto ?_)
    | (with_reducible apply awp_join)
    | (with_reducible refine CallZ.l (PCall.kf (picked_c _ _ (by assumption) (by simp)) ?_ ?_))
    | (with_reducible refine PCall.kf (picked_c _ _ (by assumption) (by simp)) ?_ ?_)
    | (with_reducible refine PCall.df (picked_c _ _ (by assumption) (by simp)) ?_ ?_)
    | (with_reducible refine CallZ.l (PCall.kf (check_c _ _ _ _ _) ?_ ?_))
    | (with_reducible refine PCall.kf (check_c _ _ _ _ _) ?_ ?_)
    | (with_reducible refine PCall.df (check_c _ _ _ _ _) ?_ ?_)
    | (with_reducible refine CallZ.l (PCall.kn (picked_c _ _ (by assumption) (by simp)) (by with_unfolding_all rfl) (by with_unfolding_all rfl) ?_))
    | (with_reducible refine PCall.kn (picked_c _ _ (by assumption) (by simp)) (by with_unfolding_all rfl) (by with_unfolding_all rfl) ?_)
    | (with_reducible refine PCall.dn (picked_c _ _ (by assumption) (by simp)) (by with_unfolding_all rfl) (by with_unfolding_all rfl) ?_)
    | (with_reducible refine CallZ.l (PCall.kn (check_c _ _ _ _ _) (by with_unfolding_all rfl) (by with_unfolding_all rfl) ?_))
    | (with_reducible refine PCall.kn (check_c _ _ _ _ _) (by with_unfolding_all rfl) (by with_unfolding_all rfl) ?_)
    | (with_reducible refine PCall.dn (check_c _ _ _ _ _) (by with_unfolding_all rfl) (by with_unfolding_all rfl) ?_)
    | ((with_reducible refine PCall.dz (picked_c _ _ (by assumption) (by simp)) (by with_unfolding_all rfl) (by with_unfolding_all rfl) ?_); rotate_right; rintro zh1 zq1; (try simp -dsimp [go_sem] at zq1); obtain ⟨rfl⟩ := zq1)
    | ((with_reducible refine PCall.dz (check_c _ _ _ _ _) (by with_unfolding_all rfl) (by with_unfolding_all rfl) ?_); rotate_right; rintro zh1 zq1; (try simp -dsimp [go_sem] at zq1); obtain ⟨rfl⟩ := zq1)
    | (with_reducible refine CallZ.z ?_)
    | (simp -dsimp [go_sem, bytesOf_zero]))
  all_goals (try omega)
  all_goals simp only [f1, f2, f3, f4] at *
  all_goals (by_cases a1 : 1 ≤ pk n 30 <;> by_cases a2 : pk n 30 ≤ 12 <;> by_cases a3 : pk n 30 ≤ 20 <;> by_cases a4 : pk m 3 = 2 <;> first | omega | (simp_all; done) | (simp_all; omega))
end Go.Proofs.Ytlgcebeianjaiaa
