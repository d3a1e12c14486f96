/- PutStays: the walk. -/
import Derived.Test.YtmaiphnabebplaaA15
import Derived.Test.YtmaiphnabebplaaA11
set_option linter.unusedVariables false
set_option linter.unusedSimpArgs false
set_option maxRecDepth 100000
set_option maxHeartbeats 8000000
namespace Go.Proofs.Ytmaiphnabebplaa
open Go Go.RowKit Go.Proofs.AE
def ac_rostrumkeep_PutStays : ACode := .seq (.reg [⟨some 4, .assign (.const (.bool false)), none⟩]) (.seq (.reg [⟨some 19, .move (.tmp 0), none⟩,
    ⟨some 20, .call { callee := .value (.func 16), args := #[.tmp 19, .const (.int .i64 90)], argTypes := #[3, 3] }, none⟩,
    ⟨some 21, .binOp .add 3 (.const (.int .i64 1)) (.tmp 20) 3, none⟩,
    ⟨some 5, .assign (.tmp 21), none⟩]) (.seq (.reg [⟨some 23, .build 29 #[], none⟩,
    ⟨some 24, .build 39 #[(0, .const (.int .i64 3)), (1, .const (.string { data := #[97] })), (4, .const (.int .i64 1))], none⟩,
    ⟨some 25, .call { callee := .value (.func 17), args := #[.tmp 23, .const (.int .i64 0), .tmp 24], argTypes := #[29, 3, 39] }, none⟩,
    ⟨some 22, .move (.tmp 25), none⟩,
    ⟨some 26, .extract (.tmp 22) 0, none⟩,
    ⟨some 27, .extract (.tmp 22) 1, none⟩,
    ⟨some 28, .extract (.tmp 22) 2, none⟩,
    ⟨some 6, .alloc 29, none⟩,
    ⟨some 7, .alloc 35, none⟩,
    ⟨none, .store 29 (.tmp 6) (.tmp 26), none⟩,
    ⟨none, .store 35 (.tmp 7) (.tmp 27), none⟩,
    ⟨some 8, .assign (.tmp 28), none⟩]) (.seq (.reg [⟨some 30, .load 29 (.tmp 6), none⟩,
    ⟨some 31, .move (.tmp 5), none⟩,
    ⟨some 32, .build 39 #[(0, .const (.int .i64 20)), (1, .const (.string { data := #[97] })), (4, .tmp 31)], none⟩,
    ⟨some 33, .call { callee := .value (.func 17), args := #[.tmp 30, .const (.int .i64 0), .tmp 32], argTypes := #[29, 3, 39] }, none⟩,
    ⟨some 29, .move (.tmp 33), none⟩,
    ⟨some 34, .extract (.tmp 29) 0, none⟩,
    ⟨some 35, .extract (.tmp 29) 1, none⟩,
    ⟨some 36, .extract (.tmp 29) 2, none⟩,
    ⟨some 9, .alloc 35, none⟩,
    ⟨none, .store 29 (.tmp 6) (.tmp 34), none⟩,
    ⟨none, .store 35 (.tmp 9) (.tmp 35), none⟩,
    ⟨some 10, .assign (.tmp 36), none⟩]) (.seq (.reg [⟨some 37, .build 39 #[(0, .const (.int .i64 3)), (1, .const (.string { data := #[97] })), (4, .const (.int .i64 1))], none⟩,
    ⟨some 11, .alloc 39, none⟩,
    ⟨none, .store 39 (.tmp 11) (.tmp 37), none⟩]) (.seq (.seq (.reg [⟨some 38, .move (.tmp 1), none⟩]) (.cond (.tmp 38) (.reg [⟨some 39, .build 39 #[(0, .const (.int .i64 1)), (1, .const (.string { data := #[97] }))], none⟩,
    ⟨none, .store 39 (.tmp 11) (.tmp 39), none⟩]) .skip)) (.seq (.reg [⟨some 41, .load 29 (.tmp 6), none⟩,
    ⟨some 42, .load 39 (.tmp 11), none⟩,
    ⟨some 43, .call { callee := .value (.func 17), args := #[.tmp 41, .const (.int .i64 0), .tmp 42], argTypes := #[29, 3, 39] }, none⟩,
    ⟨some 40, .move (.tmp 43), none⟩,
    ⟨some 44, .extract (.tmp 40) 0, none⟩,
    ⟨some 45, .extract (.tmp 40) 1, none⟩,
    ⟨some 46, .extract (.tmp 40) 2, none⟩,
    ⟨some 12, .alloc 35, none⟩,
    ⟨none, .store 29 (.tmp 6) (.tmp 44), none⟩,
    ⟨none, .store 35 (.tmp 12) (.tmp 45), none⟩,
    ⟨some 13, .assign (.tmp 46), none⟩]) (.seq (.reg [⟨some 48, .load 29 (.tmp 6), none⟩,
    ⟨some 49, .move (.tmp 5), none⟩,
    ⟨some 50, .build 39 #[(0, .const (.int .i64 22))], none⟩,
    ⟨some 51, .call { callee := .value (.func 17), args := #[.tmp 48, .tmp 49, .tmp 50], argTypes := #[29, 3, 39] }, none⟩,
    ⟨some 47, .move (.tmp 51), none⟩,
    ⟨some 52, .extract (.tmp 47) 0, none⟩,
    ⟨some 53, .extract (.tmp 47) 1, none⟩,
    ⟨some 54, .extract (.tmp 47) 2, none⟩,
    ⟨some 14, .alloc 29, none⟩,
    ⟨some 15, .alloc 35, none⟩,
    ⟨none, .store 29 (.tmp 14) (.tmp 52), none⟩,
    ⟨none, .store 35 (.tmp 15) (.tmp 53), none⟩,
    ⟨some 16, .assign (.tmp 54), none⟩]) (.seq (.reg [⟨some 56, .load 29 (.tmp 14), none⟩,
    ⟨some 57, .call { callee := .value (.func 21), args := #[.tmp 56, .const (.string { data := #[97] })], argTypes := #[29, 9] }, none⟩,
    ⟨some 55, .move (.tmp 57), none⟩,
    ⟨some 58, .extract (.tmp 55) 0, none⟩,
    ⟨some 59, .extract (.tmp 55) 1, none⟩,
    ⟨some 17, .alloc 49, none⟩,
    ⟨none, .store 49 (.tmp 17) (.tmp 58), none⟩,
    ⟨some 18, .assign (.tmp 59), none⟩]) (.seq (.reg [⟨some 60, .move (.tmp 8), none⟩,
    ⟨some 61, .binOp .eql 32 (.tmp 60) (.const (.int .i64 0)) 32, none⟩,
    ⟨some 62, .move (.tmp 61), none⟩,
    ⟨some 63, .move (.tmp 10), some (62, true)⟩,
    ⟨some 64, .binOp .eql 32 (.tmp 63) (.const (.int .i64 0)) 32, some (62, true)⟩,
    ⟨some 65, .pick (.tmp 62) (.tmp 64) (.const (.bool false)), none⟩,
    ⟨some 66, .move (.tmp 65), none⟩,
    ⟨some 67, .move (.tmp 13), some (66, true)⟩,
    ⟨some 68, .binOp .eql 32 (.tmp 67) (.const (.int .i64 0)) 32, some (66, true)⟩,
    ⟨some 69, .pick (.tmp 66) (.tmp 68) (.const (.bool false)), none⟩,
    ⟨some 70, .move (.tmp 69), none⟩,
    ⟨some 71, .move (.tmp 16), some (70, true)⟩,
    ⟨some 72, .binOp .eql 32 (.tmp 71) (.const (.int .i64 0)) 32, some (70, true)⟩,
    ⟨some 73, .pick (.tmp 70) (.tmp 72) (.const (.bool false)), none⟩,
    ⟨some 74, .move (.tmp 73), none⟩,
    ⟨some 75, .move (.tmp 18), some (74, true)⟩,
    ⟨some 76, .move (.tmp 1), some (74, true)⟩,
    ⟨some 77, .binOp .eql 4 (.tmp 75) (.tmp 76) 4, some (74, true)⟩,
    ⟨some 78, .pick (.tmp 74) (.tmp 77) (.const (.bool false)), none⟩,
    ⟨some 79, .move (.tmp 78), none⟩,
    ⟨some 80, .fieldAddr 29 (.tmp 6) 1, some (79, true)⟩,
    ⟨some 81, .load 27 (.tmp 80), some (79, true)⟩,
    ⟨some 82, .call { callee := .builtin .len, args := #[.tmp 81], argTypes := #[27] }, some (79, true)⟩,
    ⟨some 83, .binOp .eql 3 (.tmp 82) (.const (.int .i64 1)) 3, some (79, true)⟩,
    ⟨some 84, .pick (.tmp 79) (.tmp 83) (.const (.bool false)), none⟩,
    ⟨some 4, .assign (.tmp 84), none⟩]) .ret)))))))))
theorem rs_rostrumkeep_PutStays : Try.f7.results.toList = [.tmp 4] := rfl
theorem ok_rostrumkeep_PutStays : Try.f7.body.bind (comp Try.f7.ntmps) = some ac_rostrumkeep_PutStays := by kernel_rfl
variable {G : Nat → AV}
theorem putStays_c (n : Int) (b : Bool) (hn : i64 n) : PCall Try.prog G 7 [iV n, bV b] (bV true) := by
  have hp := pk_range (n := n) (m := 90) (by omega)
  have hpk := picked_c (G := G) n 90 hn (by omega)
  generalize pk n 90 = p at *
  obtain ⟨l1, l2, l3, l4, e1, o1, e2, o2, e3, o3, n3, e4, o4, n4, ⟨l5, r5, e5, o5, g5⟩, l6, r6, y, e6, o6, g6⟩ := put_stays (k := 1 + p) (by omega) (by omega)
  have w1 : IntKind.i64.wrap (1 + p) = 1 + p := IntWalk.i64_in _ (by omega)
  have h1 := apply_c (G := G) zeroS 0 (addK aK 1) okS_zero.small
  have h2 := apply_c (G := G) ⟨0, l1⟩ 0 (expC aK (1 + p)) o1.small
  have h3 := apply_c (G := G) ⟨0, l2⟩ 0 (addK aK 1) o2.small
  have h4 := apply_c (G := G) ⟨0, l2⟩ 0 (putK aK ⟨#[]⟩) o2.small
  have h5 := apply_c (G := G) ⟨0, l3⟩ (1 + p) keysC o3.small
  have h6 := apply_c (G := G) ⟨0, l4⟩ (1 + p) keysC o4.small
  rw [e1] at h1
  rw [e2] at h2
  rw [e3] at h3
  rw [e4] at h4
  rw [e5] at h5
  rw [e6] at h6
  have h7 := entry_c (G := G) ⟨1 + p, l5⟩ aK (Nat.le_trans o5.len (by omega))
  have h8 := entry_c (G := G) ⟨1 + p, l6⟩ aK (Nat.le_trans o6.len (by omega))
  obtain ⟨yk, ⟨y1, y2, y3, y4, y5, y6⟩, yt⟩ := y
  simp only [g5, g6] at h7 h8
  simp only [ApA, Sto.c, Cmd.c, Rep.c, zeroS, addK, expC, putK, keysC, toldR, aK, List.map_nil, entO, Option.getD_none, Option.getD_some, Option.isSome_none, Option.isSome_some, Ent.c, zeroV] at h1 h2 h3 h4 h5 h6 h7 h8
  cases b
  · refine pcall mixed Try.func7 ok_rostrumkeep_PutStays rs_rostrumkeep_PutStays (by simp [Try.f7]) ?_
    unfold ac_rostrumkeep_PutStays
    repeat' (first | (with_reducible first | refine Cnd.intro (fun h => ?_) (fun h => ?_) | refine And.intro ?_ ?_ | refine Wk.refl ?_ | exact Weak.refl _ _ | refine weak_auto ?_ | apply awp_join) | ((try with_reducible refine CallZ.l ?_); with_reducible refine qcf (by first | exact hpk | exact h1 | exact h2 | exact h3 | exact h5 | exact h7) ?_ ?_) | ((try with_reducible refine CallZ.l ?_); with_reducible refine qcn (by first | exact qkc hpk (by with_unfolding_all rfl) | exact qkc h1 (by with_unfolding_all rfl) | exact qkc h2 (by with_unfolding_all rfl) | exact qkc h3 (by with_unfolding_all rfl) | exact qkc h5 (by with_unfolding_all rfl) | exact qkc h7 (by with_unfolding_all rfl)) ?_) | ((with_reducible refine qcz (by first | exact qkz hpk (by with_unfolding_all rfl) | exact qkz h1 (by with_unfolding_all rfl) | exact qkz h2 (by with_unfolding_all rfl) | exact qkz h3 (by with_unfolding_all rfl) | exact qkz h5 (by with_unfolding_all rfl) | exact qkz h7 (by with_unfolding_all rfl)) ?_); intro zh1 zq1; (try simp -dsimp [go_sem] at zq1); obtain ⟨rfl⟩ := zq1) | (with_reducible refine CallZ.z ?_) | simp -dsimp [go_sem, w1, n3, n4])
    all_goals trace_state
  · refine pcall mixed Try.func7 ok_rostrumkeep_PutStays rs_rostrumkeep_PutStays (by simp [Try.f7]) ?_
    unfold ac_rostrumkeep_PutStays
    repeat' (first | (with_reducible first | refine Cnd.intro (fun h => ?_) (fun h => ?_) | refine And.intro ?_ ?_ | refine Wk.refl ?_ | exact Weak.refl _ _ | refine weak_auto ?_ | apply awp_join) | ((try with_reducible refine CallZ.l ?_); with_reducible refine qcf (by first | exact hpk | exact h1 | exact h2 | exact h4 | exact h6 | exact h8) ?_ ?_) | ((try with_reducible refine CallZ.l ?_); with_reducible refine qcn (by first | exact qkc hpk (by with_unfolding_all rfl) | exact qkc h1 (by with_unfolding_all rfl) | exact qkc h2 (by with_unfolding_all rfl) | exact qkc h4 (by with_unfolding_all rfl) | exact qkc h6 (by with_unfolding_all rfl) | exact qkc h8 (by with_unfolding_all rfl)) ?_) | ((with_reducible refine qcz (by first | exact qkz hpk (by with_unfolding_all rfl) | exact qkz h1 (by with_unfolding_all rfl) | exact qkz h2 (by with_unfolding_all rfl) | exact qkz h4 (by with_unfolding_all rfl) | exact qkz h6 (by with_unfolding_all rfl) | exact qkz h8 (by with_unfolding_all rfl)) ?_); intro zh1 zq1; (try simp -dsimp [go_sem] at zq1); obtain ⟨rfl⟩ := zq1) | (with_reducible refine CallZ.z ?_) | simp -dsimp [go_sem, w1, n3, n4])
    all_goals trace_state
end Go.Proofs.Ytmaiphnabebplaa
