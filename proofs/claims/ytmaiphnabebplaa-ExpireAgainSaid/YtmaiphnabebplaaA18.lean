/- ExpireAgain: the walk. -/
import Derived.Test.YtmaiphnabebplaaA15
import Derived.Test.YtmaiphnabebplaaA11
set_option linter.unusedVariables false
set_option linter.unusedSimpArgs false
set_option maxRecDepth 100000
set_option maxHeartbeats 8000000
namespace Go.Proofs.Ytmaiphnabebplaa
open Go Go.RowKit Go.Proofs.AE
def ac_rostrumkeep_ExpireAgain : ACode := .seq (.reg [⟨some 4, .assign (.const (.bool false)), none⟩]) (.seq (.reg [⟨some 26, .move (.tmp 0), none⟩,
    ⟨some 27, .call { callee := .value (.func 16), args := #[.tmp 26, .const (.int .i64 90)], argTypes := #[3, 3] }, none⟩,
    ⟨some 28, .binOp .add 3 (.const (.int .i64 1)) (.tmp 27) 3, none⟩,
    ⟨some 5, .assign (.tmp 28), none⟩]) (.seq (.reg [⟨some 29, .move (.tmp 1), none⟩,
    ⟨some 30, .call { callee := .value (.func 16), args := #[.tmp 29, .const (.int .i64 90)], argTypes := #[3, 3] }, none⟩,
    ⟨some 31, .binOp .add 3 (.const (.int .i64 1)) (.tmp 30) 3, none⟩,
    ⟨some 6, .assign (.tmp 31), none⟩]) (.seq (.reg [⟨some 33, .build 29 #[], none⟩,
    ⟨some 34, .build 39 #[(0, .const (.int .i64 7)), (1, .const (.string { data := #[97] })), (3, .const (.string { data := #[120] }))], none⟩,
    ⟨some 35, .call { callee := .value (.func 17), args := #[.tmp 33, .const (.int .i64 5), .tmp 34], argTypes := #[29, 3, 39] }, none⟩,
    ⟨some 32, .move (.tmp 35), none⟩,
    ⟨some 36, .extract (.tmp 32) 0, none⟩,
    ⟨some 37, .extract (.tmp 32) 1, none⟩,
    ⟨some 38, .extract (.tmp 32) 2, none⟩,
    ⟨some 7, .alloc 29, none⟩,
    ⟨some 8, .alloc 35, none⟩,
    ⟨none, .store 29 (.tmp 7) (.tmp 36), none⟩,
    ⟨none, .store 35 (.tmp 8) (.tmp 37), none⟩,
    ⟨some 9, .assign (.tmp 38), none⟩]) (.seq (.reg [⟨some 40, .load 29 (.tmp 7), none⟩,
    ⟨some 41, .build 39 #[(0, .const (.int .i64 21)), (1, .const (.string { data := #[97] }))], none⟩,
    ⟨some 42, .call { callee := .value (.func 17), args := #[.tmp 40, .const (.int .i64 5), .tmp 41], argTypes := #[29, 3, 39] }, none⟩,
    ⟨some 39, .move (.tmp 42), none⟩,
    ⟨some 43, .extract (.tmp 39) 0, none⟩,
    ⟨some 44, .extract (.tmp 39) 1, none⟩,
    ⟨some 45, .extract (.tmp 39) 2, none⟩,
    ⟨some 10, .alloc 29, none⟩,
    ⟨some 11, .alloc 35, none⟩,
    ⟨none, .store 29 (.tmp 10) (.tmp 43), none⟩,
    ⟨none, .store 35 (.tmp 11) (.tmp 44), none⟩,
    ⟨some 12, .assign (.tmp 45), none⟩]) (.seq (.reg [⟨some 47, .load 29 (.tmp 7), none⟩,
    ⟨some 48, .move (.tmp 5), none⟩,
    ⟨some 49, .build 39 #[(0, .const (.int .i64 20)), (1, .const (.string { data := #[97] })), (4, .tmp 48)], none⟩,
    ⟨some 50, .call { callee := .value (.func 17), args := #[.tmp 47, .const (.int .i64 5), .tmp 49], argTypes := #[29, 3, 39] }, none⟩,
    ⟨some 46, .move (.tmp 50), none⟩,
    ⟨some 51, .extract (.tmp 46) 0, none⟩,
    ⟨some 52, .extract (.tmp 46) 1, none⟩,
    ⟨some 53, .extract (.tmp 46) 2, none⟩,
    ⟨some 13, .alloc 35, none⟩,
    ⟨none, .store 29 (.tmp 7) (.tmp 51), none⟩,
    ⟨none, .store 35 (.tmp 13) (.tmp 52), none⟩,
    ⟨some 14, .assign (.tmp 53), none⟩]) (.seq (.reg [⟨some 55, .load 29 (.tmp 7), none⟩,
    ⟨some 56, .move (.tmp 6), none⟩,
    ⟨some 57, .build 39 #[(0, .const (.int .i64 20)), (1, .const (.string { data := #[97] })), (4, .tmp 56)], none⟩,
    ⟨some 58, .call { callee := .value (.func 17), args := #[.tmp 55, .const (.int .i64 5), .tmp 57], argTypes := #[29, 3, 39] }, none⟩,
    ⟨some 54, .move (.tmp 58), none⟩,
    ⟨some 59, .extract (.tmp 54) 0, none⟩,
    ⟨some 60, .extract (.tmp 54) 1, none⟩,
    ⟨some 61, .extract (.tmp 54) 2, none⟩,
    ⟨some 15, .alloc 35, none⟩,
    ⟨none, .store 29 (.tmp 7) (.tmp 59), none⟩,
    ⟨none, .store 35 (.tmp 15) (.tmp 60), none⟩,
    ⟨some 16, .assign (.tmp 61), none⟩]) (.seq (.reg [⟨some 63, .load 29 (.tmp 7), none⟩,
    ⟨some 64, .build 39 #[(0, .const (.int .i64 21)), (1, .const (.string { data := #[97] }))], none⟩,
    ⟨some 65, .call { callee := .value (.func 17), args := #[.tmp 63, .const (.int .i64 5), .tmp 64], argTypes := #[29, 3, 39] }, none⟩,
    ⟨some 62, .move (.tmp 65), none⟩,
    ⟨some 66, .extract (.tmp 62) 0, none⟩,
    ⟨some 67, .extract (.tmp 62) 1, none⟩,
    ⟨some 68, .extract (.tmp 62) 2, none⟩,
    ⟨some 17, .alloc 29, none⟩,
    ⟨some 18, .alloc 35, none⟩,
    ⟨none, .store 29 (.tmp 17) (.tmp 66), none⟩,
    ⟨none, .store 35 (.tmp 18) (.tmp 67), none⟩,
    ⟨some 19, .assign (.tmp 68), none⟩]) (.seq (.reg [⟨some 70, .load 29 (.tmp 7), none⟩,
    ⟨some 71, .move (.tmp 6), none⟩,
    ⟨some 72, .binOp .add 3 (.const (.int .i64 4)) (.tmp 71) 3, none⟩,
    ⟨some 73, .build 39 #[(0, .const (.int .i64 22))], none⟩,
    ⟨some 74, .call { callee := .value (.func 17), args := #[.tmp 70, .tmp 72, .tmp 73], argTypes := #[29, 3, 39] }, none⟩,
    ⟨some 69, .move (.tmp 74), none⟩,
    ⟨some 75, .extract (.tmp 69) 0, none⟩,
    ⟨some 76, .extract (.tmp 69) 1, none⟩,
    ⟨some 77, .extract (.tmp 69) 2, none⟩,
    ⟨some 20, .alloc 29, none⟩,
    ⟨some 21, .alloc 35, none⟩,
    ⟨none, .store 29 (.tmp 20) (.tmp 75), none⟩,
    ⟨none, .store 35 (.tmp 21) (.tmp 76), none⟩,
    ⟨some 22, .assign (.tmp 77), none⟩]) (.seq (.reg [⟨some 79, .load 29 (.tmp 7), none⟩,
    ⟨some 80, .move (.tmp 6), none⟩,
    ⟨some 81, .binOp .add 3 (.const (.int .i64 5)) (.tmp 80) 3, none⟩,
    ⟨some 82, .build 39 #[(0, .const (.int .i64 22))], none⟩,
    ⟨some 83, .call { callee := .value (.func 17), args := #[.tmp 79, .tmp 81, .tmp 82], argTypes := #[29, 3, 39] }, none⟩,
    ⟨some 78, .move (.tmp 83), none⟩,
    ⟨some 84, .extract (.tmp 78) 0, none⟩,
    ⟨some 85, .extract (.tmp 78) 1, none⟩,
    ⟨some 86, .extract (.tmp 78) 2, none⟩,
    ⟨some 23, .alloc 29, none⟩,
    ⟨some 24, .alloc 35, none⟩,
    ⟨none, .store 29 (.tmp 23) (.tmp 84), none⟩,
    ⟨none, .store 35 (.tmp 24) (.tmp 85), none⟩,
    ⟨some 25, .assign (.tmp 86), none⟩]) (.seq (.reg [⟨some 87, .move (.tmp 9), none⟩,
    ⟨some 88, .binOp .eql 32 (.tmp 87) (.const (.int .i64 0)) 32, none⟩,
    ⟨some 89, .move (.tmp 88), none⟩,
    ⟨some 90, .move (.tmp 12), some (89, true)⟩,
    ⟨some 91, .binOp .eql 32 (.tmp 90) (.const (.int .i64 0)) 32, some (89, true)⟩,
    ⟨some 92, .pick (.tmp 89) (.tmp 91) (.const (.bool false)), none⟩,
    ⟨some 93, .move (.tmp 92), none⟩,
    ⟨some 94, .move (.tmp 14), some (93, true)⟩,
    ⟨some 95, .binOp .eql 32 (.tmp 94) (.const (.int .i64 0)) 32, some (93, true)⟩,
    ⟨some 96, .pick (.tmp 93) (.tmp 95) (.const (.bool false)), none⟩,
    ⟨some 97, .move (.tmp 96), none⟩,
    ⟨some 98, .move (.tmp 16), some (97, true)⟩,
    ⟨some 99, .binOp .eql 32 (.tmp 98) (.const (.int .i64 0)) 32, some (97, true)⟩,
    ⟨some 100, .pick (.tmp 97) (.tmp 99) (.const (.bool false)), none⟩,
    ⟨some 101, .move (.tmp 100), none⟩,
    ⟨some 102, .move (.tmp 19), some (101, true)⟩,
    ⟨some 103, .binOp .eql 32 (.tmp 102) (.const (.int .i64 0)) 32, some (101, true)⟩,
    ⟨some 104, .pick (.tmp 101) (.tmp 103) (.const (.bool false)), none⟩,
    ⟨some 105, .move (.tmp 104), none⟩,
    ⟨some 106, .move (.tmp 22), some (105, true)⟩,
    ⟨some 107, .binOp .eql 32 (.tmp 106) (.const (.int .i64 0)) 32, some (105, true)⟩,
    ⟨some 108, .pick (.tmp 105) (.tmp 107) (.const (.bool false)), none⟩,
    ⟨some 109, .move (.tmp 108), none⟩,
    ⟨some 110, .move (.tmp 25), some (109, true)⟩,
    ⟨some 111, .binOp .eql 32 (.tmp 110) (.const (.int .i64 0)) 32, some (109, true)⟩,
    ⟨some 112, .pick (.tmp 109) (.tmp 111) (.const (.bool false)), none⟩,
    ⟨some 113, .move (.tmp 112), none⟩,
    ⟨some 114, .fieldAddr 35 (.tmp 11) 2, some (113, true)⟩,
    ⟨some 115, .load 3 (.tmp 114), some (113, true)⟩,
    ⟨some 116, .binOp .eql 3 (.tmp 115) (.const (.int .i64 0)) 3, some (113, true)⟩,
    ⟨some 117, .pick (.tmp 113) (.tmp 116) (.const (.bool false)), none⟩,
    ⟨some 118, .move (.tmp 117), none⟩,
    ⟨some 119, .fieldAddr 35 (.tmp 11) 0, some (118, true)⟩,
    ⟨some 120, .load 32 (.tmp 119), some (118, true)⟩,
    ⟨some 121, .binOp .eql 32 (.tmp 120) (.const (.int .i64 0)) 32, some (118, true)⟩,
    ⟨some 122, .pick (.tmp 118) (.tmp 121) (.const (.bool false)), none⟩,
    ⟨some 123, .move (.tmp 122), none⟩,
    ⟨some 124, .fieldAddr 35 (.tmp 18) 2, some (123, true)⟩,
    ⟨some 125, .load 3 (.tmp 124), some (123, true)⟩,
    ⟨some 126, .move (.tmp 6), some (123, true)⟩,
    ⟨some 127, .binOp .eql 3 (.tmp 125) (.tmp 126) 3, some (123, true)⟩,
    ⟨some 128, .pick (.tmp 123) (.tmp 127) (.const (.bool false)), none⟩,
    ⟨some 129, .move (.tmp 128), none⟩,
    ⟨some 130, .fieldAddr 29 (.tmp 20) 1, some (129, true)⟩,
    ⟨some 131, .load 27 (.tmp 130), some (129, true)⟩,
    ⟨some 132, .call { callee := .builtin .len, args := #[.tmp 131], argTypes := #[27] }, some (129, true)⟩,
    ⟨some 133, .binOp .eql 3 (.tmp 132) (.const (.int .i64 1)) 3, some (129, true)⟩,
    ⟨some 134, .pick (.tmp 129) (.tmp 133) (.const (.bool false)), none⟩,
    ⟨some 135, .move (.tmp 134), none⟩,
    ⟨some 136, .fieldAddr 29 (.tmp 23) 1, some (135, true)⟩,
    ⟨some 137, .load 27 (.tmp 136), some (135, true)⟩,
    ⟨some 138, .call { callee := .builtin .len, args := #[.tmp 137], argTypes := #[27] }, some (135, true)⟩,
    ⟨some 139, .binOp .eql 3 (.tmp 138) (.const (.int .i64 0)) 3, some (135, true)⟩,
    ⟨some 140, .pick (.tmp 135) (.tmp 139) (.const (.bool false)), none⟩,
    ⟨some 4, .assign (.tmp 140), none⟩]) .ret))))))))))
theorem rs_rostrumkeep_ExpireAgain : Try.f13.results.toList = [.tmp 4] := rfl
theorem ok_rostrumkeep_ExpireAgain : Try.f13.body.bind (comp Try.f13.ntmps) = some ac_rostrumkeep_ExpireAgain := by kernel_rfl
variable {G : Nat → AV}
theorem expireAgain_c (n m : Int) (hn : i64 n) (hm : i64 m) : PCall Try.prog G 13 [iV n, iV m] (bV true) := by
  have hp := pk_range (n := n) (m := 90) (by omega)
  have hpk := picked_c (G := G) n 90 hn (by omega)
  have hq := pk_range (n := m) (m := 90) (by omega)
  have hqk := picked_c (G := G) m 90 hm (by omega)
  generalize pk n 90 = p at *
  generalize pk m 90 = q at *
  obtain ⟨l1, l2, l3, e1, o1, ⟨l4, e4, o4⟩, e2, o2, e3, o3, ⟨l5, e5, o5⟩, ⟨l6, r6, e6, o6, n6⟩, l7, r7, e7, o7, n7⟩ := expire_again (a := 1 + p) (b := 1 + q) (by omega) (by omega) (by omega) (by omega)
  have w1 : IntKind.i64.wrap (1 + p) = 1 + p := IntWalk.i64_in _ (by omega)
  have w2 : IntKind.i64.wrap (1 + q) = 1 + q := IntWalk.i64_in _ (by omega)
  have w3 : IntKind.i64.wrap (4 + (1 + q)) = 4 + (1 + q) := IntWalk.i64_in _ (by omega)
  have w4 : IntKind.i64.wrap (5 + (1 + q)) = 5 + (1 + q) := IntWalk.i64_in _ (by omega)
  have h1 := apply_c (G := G) zeroS 5 (pushK aK xS) okS_zero.small
  have h2 := apply_c (G := G) ⟨5, l1⟩ 5 (expC aK (1 + p)) o1.small
  have h3 := apply_c (G := G) ⟨5, l2⟩ 5 (expC aK (1 + q)) o2.small
  have h4 := apply_c (G := G) ⟨5, l1⟩ 5 (lifeC aK) o1.small
  have h5 := apply_c (G := G) ⟨5, l3⟩ 5 (lifeC aK) o3.small
  have h6 := apply_c (G := G) ⟨5, l3⟩ (4 + (1 + q)) keysC o3.small
  have h7 := apply_c (G := G) ⟨5, l3⟩ (5 + (1 + q)) keysC o3.small
  rw [e1] at h1
  rw [e2] at h2
  rw [e3] at h3
  rw [e4] at h4
  rw [e5] at h5
  rw [e6] at h6
  rw [e7] at h7
  simp only [ApA, Sto.c, Cmd.c, Rep.c, zeroS, pushK, expC, lifeC, keysC, toldR, aK, xS, List.map_nil] at h1 h2 h3 h4 h5 h6 h7
  refine pcall mixed Try.func13 ok_rostrumkeep_ExpireAgain rs_rostrumkeep_ExpireAgain (by simp [Try.f13]) ?_
  unfold ac_rostrumkeep_ExpireAgain
  repeat' (first | (with_reducible first | refine Cnd.intro (fun h => ?_) (fun h => ?_) | refine And.intro ?_ ?_ | refine Wk.refl ?_ | exact Weak.refl _ _ | refine weak_auto ?_ | apply awp_join) | ((try with_reducible refine CallZ.l ?_); with_reducible refine qcf (by first | exact hpk | exact hqk | exact h1 | exact h2 | exact h3 | exact h4 | exact h5 | exact h6 | exact h7) ?_ ?_) | ((try with_reducible refine CallZ.l ?_); with_reducible refine qcn (by first | exact qkc hpk (by with_unfolding_all rfl) | exact qkc hqk (by with_unfolding_all rfl) | exact qkc h1 (by with_unfolding_all rfl) | exact qkc h2 (by with_unfolding_all rfl) | exact qkc h3 (by with_unfolding_all rfl) | exact qkc h4 (by with_unfolding_all rfl) | exact qkc h5 (by with_unfolding_all rfl) | exact qkc h6 (by with_unfolding_all rfl) | exact qkc h7 (by with_unfolding_all rfl)) ?_) | ((with_reducible refine qcz (by first | exact qkz hpk (by with_unfolding_all rfl) | exact qkz hqk (by with_unfolding_all rfl) | exact qkz h1 (by with_unfolding_all rfl) | exact qkz h2 (by with_unfolding_all rfl) | exact qkz h3 (by with_unfolding_all rfl) | exact qkz h4 (by with_unfolding_all rfl) | exact qkz h5 (by with_unfolding_all rfl) | exact qkz h6 (by with_unfolding_all rfl) | exact qkz h7 (by with_unfolding_all rfl)) ?_); intro zh1 zq1; (try simp -dsimp [go_sem] at zq1); obtain ⟨rfl⟩ := zq1) | (with_reducible refine CallZ.z ?_) | simp -dsimp [go_sem, w1, w2, w3, w4, n6, n7])
  all_goals trace_state
end Go.Proofs.Ytmaiphnabebplaa
