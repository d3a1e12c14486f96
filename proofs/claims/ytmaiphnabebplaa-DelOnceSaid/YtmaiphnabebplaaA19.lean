/- DelOnce: the walk. -/
import Derived.Test.YtmaiphnabebplaaA15
import Derived.Test.YtmaiphnabebplaaA10
set_option linter.unusedVariables false
set_option linter.unusedSimpArgs false
set_option maxRecDepth 100000
set_option maxHeartbeats 8000000
namespace Go.Proofs.Ytmaiphnabebplaa
open Go Go.RowKit Go.Proofs.AE
def ac_rostrumkeep_DelOnce : ACode := .seq (.reg [⟨some 4, .assign (.const (.bool false)), none⟩]) (.seq (.reg [⟨some 18, .move (.tmp 0), none⟩,
    ⟨some 19, .call { callee := .value (.func 15), args := #[.tmp 18], argTypes := #[22] }, none⟩,
    ⟨some 5, .alloc 29, none⟩,
    ⟨none, .store 29 (.tmp 5) (.tmp 19), none⟩]) (.seq (.reg [⟨some 20, .move (.tmp 1), none⟩,
    ⟨some 21, .call { callee := .value (.func 20), args := #[.tmp 20], argTypes := #[3] }, none⟩,
    ⟨some 6, .assign (.tmp 21), none⟩]) (.seq (.reg [⟨some 23, .load 29 (.tmp 5), none⟩,
    ⟨some 24, .move (.tmp 6), none⟩,
    ⟨some 25, .call { callee := .value (.func 21), args := #[.tmp 23, .tmp 24], argTypes := #[29, 9] }, none⟩,
    ⟨some 22, .move (.tmp 25), none⟩,
    ⟨some 26, .extract (.tmp 22) 0, none⟩,
    ⟨some 27, .extract (.tmp 22) 1, none⟩,
    ⟨some 7, .alloc 49, none⟩,
    ⟨none, .store 49 (.tmp 7) (.tmp 26), none⟩,
    ⟨some 8, .assign (.tmp 27), none⟩]) (.seq (.reg [⟨some 29, .load 29 (.tmp 5), none⟩,
    ⟨some 30, .fieldAddr 29 (.tmp 5) 0, none⟩,
    ⟨some 31, .load 3 (.tmp 30), none⟩,
    ⟨some 32, .move (.tmp 6), none⟩,
    ⟨some 33, .build 39 #[(0, .const (.int .i64 19)), (1, .tmp 32)], none⟩,
    ⟨some 34, .call { callee := .value (.func 17), args := #[.tmp 29, .tmp 31, .tmp 33], argTypes := #[29, 3, 39] }, none⟩,
    ⟨some 28, .move (.tmp 34), none⟩,
    ⟨some 35, .extract (.tmp 28) 0, none⟩,
    ⟨some 36, .extract (.tmp 28) 1, none⟩,
    ⟨some 37, .extract (.tmp 28) 2, none⟩,
    ⟨some 9, .alloc 29, none⟩,
    ⟨some 10, .alloc 35, none⟩,
    ⟨none, .store 29 (.tmp 9) (.tmp 35), none⟩,
    ⟨none, .store 35 (.tmp 10) (.tmp 36), none⟩,
    ⟨some 11, .assign (.tmp 37), none⟩]) (.seq (.reg [⟨some 39, .load 29 (.tmp 9), none⟩,
    ⟨some 40, .fieldAddr 29 (.tmp 5) 0, none⟩,
    ⟨some 41, .load 3 (.tmp 40), none⟩,
    ⟨some 42, .move (.tmp 6), none⟩,
    ⟨some 43, .build 39 #[(0, .const (.int .i64 19)), (1, .tmp 42)], none⟩,
    ⟨some 44, .call { callee := .value (.func 17), args := #[.tmp 39, .tmp 41, .tmp 43], argTypes := #[29, 3, 39] }, none⟩,
    ⟨some 38, .move (.tmp 44), none⟩,
    ⟨some 45, .extract (.tmp 38) 0, none⟩,
    ⟨some 46, .extract (.tmp 38) 1, none⟩,
    ⟨some 47, .extract (.tmp 38) 2, none⟩,
    ⟨some 12, .alloc 29, none⟩,
    ⟨some 13, .alloc 35, none⟩,
    ⟨none, .store 29 (.tmp 12) (.tmp 45), none⟩,
    ⟨none, .store 35 (.tmp 13) (.tmp 46), none⟩,
    ⟨some 14, .assign (.tmp 47), none⟩]) (.seq (.reg [⟨some 49, .load 29 (.tmp 9), none⟩,
    ⟨some 50, .fieldAddr 29 (.tmp 5) 0, none⟩,
    ⟨some 51, .load 3 (.tmp 50), none⟩,
    ⟨some 52, .move (.tmp 6), none⟩,
    ⟨some 53, .build 39 #[(0, .const (.int .i64 18)), (1, .tmp 52)], none⟩,
    ⟨some 54, .call { callee := .value (.func 17), args := #[.tmp 49, .tmp 51, .tmp 53], argTypes := #[29, 3, 39] }, none⟩,
    ⟨some 48, .move (.tmp 54), none⟩,
    ⟨some 55, .extract (.tmp 48) 0, none⟩,
    ⟨some 56, .extract (.tmp 48) 1, none⟩,
    ⟨some 57, .extract (.tmp 48) 2, none⟩,
    ⟨some 15, .alloc 29, none⟩,
    ⟨some 16, .alloc 35, none⟩,
    ⟨none, .store 29 (.tmp 15) (.tmp 55), none⟩,
    ⟨none, .store 35 (.tmp 16) (.tmp 56), none⟩,
    ⟨some 17, .assign (.tmp 57), none⟩]) (.seq (.reg [⟨some 58, .move (.tmp 11), none⟩,
    ⟨some 59, .binOp .eql 32 (.tmp 58) (.const (.int .i64 0)) 32, none⟩,
    ⟨some 60, .move (.tmp 59), none⟩,
    ⟨some 61, .move (.tmp 14), some (60, true)⟩,
    ⟨some 62, .binOp .eql 32 (.tmp 61) (.const (.int .i64 0)) 32, some (60, true)⟩,
    ⟨some 63, .pick (.tmp 60) (.tmp 62) (.const (.bool false)), none⟩,
    ⟨some 64, .move (.tmp 63), none⟩,
    ⟨some 65, .move (.tmp 17), some (64, true)⟩,
    ⟨some 66, .binOp .eql 32 (.tmp 65) (.const (.int .i64 0)) 32, some (64, true)⟩,
    ⟨some 67, .pick (.tmp 64) (.tmp 66) (.const (.bool false)), none⟩,
    ⟨some 68, .move (.tmp 67), none⟩,
    ⟨some 69, .fieldAddr 35 (.tmp 10) 2, some (68, true)⟩,
    ⟨some 70, .load 3 (.tmp 69), some (68, true)⟩,
    ⟨some 71, .binOp .eql 3 (.tmp 70) (.const (.int .i64 1)) 3, some (68, true)⟩,
    ⟨some 72, .move (.tmp 8), some (68, true)⟩,
    ⟨some 73, .binOp .eql 4 (.tmp 71) (.tmp 72) 4, some (68, true)⟩,
    ⟨some 74, .pick (.tmp 68) (.tmp 73) (.const (.bool false)), none⟩,
    ⟨some 75, .move (.tmp 74), none⟩,
    ⟨some 76, .fieldAddr 35 (.tmp 13) 2, some (75, true)⟩,
    ⟨some 77, .load 3 (.tmp 76), some (75, true)⟩,
    ⟨some 78, .binOp .eql 3 (.tmp 77) (.const (.int .i64 0)) 3, some (75, true)⟩,
    ⟨some 79, .pick (.tmp 75) (.tmp 78) (.const (.bool false)), none⟩,
    ⟨some 80, .move (.tmp 79), none⟩,
    ⟨some 81, .fieldAddr 35 (.tmp 16) 0, some (80, true)⟩,
    ⟨some 82, .load 32 (.tmp 81), some (80, true)⟩,
    ⟨some 83, .binOp .eql 32 (.tmp 82) (.const (.int .i64 5)) 32, some (80, true)⟩,
    ⟨some 84, .pick (.tmp 80) (.tmp 83) (.const (.bool false)), none⟩,
    ⟨some 85, .move (.tmp 84), none⟩,
    ⟨some 86, .load 29 (.tmp 9), some (85, true)⟩,
    ⟨some 87, .load 29 (.tmp 12), some (85, true)⟩,
    ⟨some 88, .call { callee := .value (.func 25), args := #[.tmp 86, .tmp 87], argTypes := #[29, 29] }, some (85, true)⟩,
    ⟨some 89, .pick (.tmp 85) (.tmp 88) (.const (.bool false)), none⟩,
    ⟨some 4, .assign (.tmp 89), none⟩]) .ret)))))))
theorem rs_rostrumkeep_DelOnce : Try.f8.results.toList = [.tmp 4] := rfl
theorem ok_rostrumkeep_DelOnce : Try.f8.body.bind (comp Try.f8.ntmps) = some ac_rostrumkeep_DelOnce := by kernel_rfl
variable {G : Nat → AV}
theorem delOnce_c (l : List Stp) (n : Int) (hl : ∀ x ∈ l, x.Ok) (hll : (l.length : Int) ≤ 9223372036854775807) (hn : i64 n) : PCall Try.prog G 8 [.one (.v (.sl (l.map Stp.row))), iV n] (bV true) := by
  have hsm := some_c (G := G) n hn
  have hst := storeK_c (G := G) l hl hll
  have hs := (storeV_ok l hl).1
  generalize storeV l = s at *
  have hk : okField (someS n) = true := rfl
  obtain ⟨l1, e1, o1, e2, e3⟩ := delete_p hs hk (some_nine n)
  have h1 := apply_c (G := G) s s.now (delC (someS n)) hs.ok.small
  have h2 := apply_c (G := G) ⟨s.now, l1⟩ s.now (delC (someS n)) o1.small
  have h3 := apply_c (G := G) ⟨s.now, l1⟩ s.now (allK (someS n)) o1.small
  have h4 := sameStore_c (G := G) ⟨s.now, l1⟩ ⟨s.now, l1⟩ o1.small
  have h5 := entry_c (G := G) s (someS n) (Nat.le_trans hs.ok.len (by omega))
  rw [e1] at h1
  rw [e2] at h2
  rw [e3] at h3
  obtain ⟨now, ents⟩ := s
  simp only at *
  generalize someS n = k at *
  generalize getE ents k = g at *
  obtain ⟨y, hy⟩ : ∃ y, entO g = y := ⟨_, rfl⟩
  rw [hy] at h5
  obtain ⟨yk, ⟨y1, y2, y3, y4, y5, y6⟩, yt⟩ := y
  obtain ⟨b, hb⟩ : ∃ b, g.isSome = b := ⟨_, rfl⟩
  rw [hb] at h1 h5
  simp only [ApA, Sto.c, Cmd.c, Rep.c, delC, allK, toldR, failR, Ent.c, decide_true, flagN] at h1 h2 h3 h4 h5 hst
  cases b
  · simp only [Bool.false_eq_true, if_false] at h1
    refine pcall mixed Try.func8 ok_rostrumkeep_DelOnce rs_rostrumkeep_DelOnce (by simp [Try.f8]) ?_
    unfold ac_rostrumkeep_DelOnce
    repeat' (first | (with_reducible first | refine Cnd.intro (fun h => ?_) (fun h => ?_) | refine And.intro ?_ ?_ | refine Wk.refl ?_ | exact Weak.refl _ _ | refine weak_auto ?_ | apply awp_join) | ((try with_reducible refine CallZ.l ?_); with_reducible refine qcf (by first | exact hst | exact hsm | exact h1 | exact h2 | exact h3 | exact h4 | exact h5) ?_ ?_) | ((try with_reducible refine CallZ.l ?_); with_reducible refine qcn (by first | exact qkc hst (by with_unfolding_all rfl) | exact qkc hsm (by with_unfolding_all rfl) | exact qkc h1 (by with_unfolding_all rfl) | exact qkc h2 (by with_unfolding_all rfl) | exact qkc h3 (by with_unfolding_all rfl) | exact qkc h4 (by with_unfolding_all rfl) | exact qkc h5 (by with_unfolding_all rfl)) ?_) | ((with_reducible refine qcz (by first | exact qkz hst (by with_unfolding_all rfl) | exact qkz hsm (by with_unfolding_all rfl) | exact qkz h1 (by with_unfolding_all rfl) | exact qkz h2 (by with_unfolding_all rfl) | exact qkz h3 (by with_unfolding_all rfl) | exact qkz h4 (by with_unfolding_all rfl) | exact qkz h5 (by with_unfolding_all rfl)) ?_); intro zh1 zq1; (try simp -dsimp [go_sem] at zq1); obtain ⟨rfl⟩ := zq1) | (with_reducible refine CallZ.z ?_) | simp -dsimp [go_sem])
    all_goals trace_state
  · simp only [if_true] at h1
    refine pcall mixed Try.func8 ok_rostrumkeep_DelOnce rs_rostrumkeep_DelOnce (by simp [Try.f8]) ?_
    unfold ac_rostrumkeep_DelOnce
    repeat' (first | (with_reducible first | refine Cnd.intro (fun h => ?_) (fun h => ?_) | refine And.intro ?_ ?_ | refine Wk.refl ?_ | exact Weak.refl _ _ | refine weak_auto ?_ | apply awp_join) | ((try with_reducible refine CallZ.l ?_); with_reducible refine qcf (by first | exact hst | exact hsm | exact h1 | exact h2 | exact h3 | exact h4 | exact h5) ?_ ?_) | ((try with_reducible refine CallZ.l ?_); with_reducible refine qcn (by first | exact qkc hst (by with_unfolding_all rfl) | exact qkc hsm (by with_unfolding_all rfl) | exact qkc h1 (by with_unfolding_all rfl) | exact qkc h2 (by with_unfolding_all rfl) | exact qkc h3 (by with_unfolding_all rfl) | exact qkc h4 (by with_unfolding_all rfl) | exact qkc h5 (by with_unfolding_all rfl)) ?_) | ((with_reducible refine qcz (by first | exact qkz hst (by with_unfolding_all rfl) | exact qkz hsm (by with_unfolding_all rfl) | exact qkz h1 (by with_unfolding_all rfl) | exact qkz h2 (by with_unfolding_all rfl) | exact qkz h3 (by with_unfolding_all rfl) | exact qkz h4 (by with_unfolding_all rfl) | exact qkz h5 (by with_unfolding_all rfl)) ?_); intro zh1 zq1; (try simp -dsimp [go_sem] at zq1); obtain ⟨rfl⟩ := zq1) | (with_reducible refine CallZ.z ?_) | simp -dsimp [go_sem])
    all_goals trace_state
end Go.Proofs.Ytmaiphnabebplaa
