/- ExpireGone: the walk. -/
import Derived.Test.YtmaiphnabebplaaA15
import Derived.Test.YtmaiphnabebplaaA11
set_option linter.unusedVariables false
set_option linter.unusedSimpArgs false
set_option maxRecDepth 100000
set_option maxHeartbeats 8000000
namespace Go.Proofs.Ytmaiphnabebplaa
open Go Go.RowKit Go.Proofs.AE
def ac_rostrumkeep_ExpireGone : ACode := .seq (.reg [⟨some 6, .assign (.const (.bool false)), none⟩]) (.seq (.reg [⟨some 22, .move (.tmp 0), none⟩,
    ⟨some 23, .call { callee := .value (.func 15), args := #[.tmp 22], argTypes := #[22] }, none⟩,
    ⟨some 7, .alloc 29, none⟩,
    ⟨none, .store 29 (.tmp 7) (.tmp 23), none⟩]) (.seq (.reg [⟨some 25, .load 29 (.tmp 7), none⟩,
    ⟨some 26, .fieldAddr 29 (.tmp 7) 0, none⟩,
    ⟨some 27, .load 3 (.tmp 26), none⟩,
    ⟨some 28, .build 39 #[(0, .const (.int .i64 1)), (1, .const (.string { data := #[97] })), (3, .const (.string { data := #[120] }))], none⟩,
    ⟨some 29, .call { callee := .value (.func 17), args := #[.tmp 25, .tmp 27, .tmp 28], argTypes := #[29, 3, 39] }, none⟩,
    ⟨some 24, .move (.tmp 29), none⟩,
    ⟨some 30, .extract (.tmp 24) 0, none⟩,
    ⟨some 31, .extract (.tmp 24) 1, none⟩,
    ⟨some 32, .extract (.tmp 24) 2, none⟩,
    ⟨some 8, .alloc 35, none⟩,
    ⟨none, .store 29 (.tmp 7) (.tmp 30), none⟩,
    ⟨none, .store 35 (.tmp 8) (.tmp 31), none⟩,
    ⟨some 9, .assign (.tmp 32), none⟩]) (.seq (.reg [⟨some 33, .move (.tmp 1), none⟩,
    ⟨some 34, .call { callee := .value (.func 16), args := #[.tmp 33, .const (.int .i64 90)], argTypes := #[3, 3] }, none⟩,
    ⟨some 35, .binOp .add 3 (.const (.int .i64 1)) (.tmp 34) 3, none⟩,
    ⟨some 10, .assign (.tmp 35), none⟩]) (.seq (.reg [⟨some 37, .load 29 (.tmp 7), none⟩,
    ⟨some 38, .fieldAddr 29 (.tmp 7) 0, none⟩,
    ⟨some 39, .load 3 (.tmp 38), none⟩,
    ⟨some 40, .move (.tmp 10), none⟩,
    ⟨some 41, .build 39 #[(0, .const (.int .i64 20)), (1, .const (.string { data := #[97] })), (4, .tmp 40)], none⟩,
    ⟨some 42, .call { callee := .value (.func 17), args := #[.tmp 37, .tmp 39, .tmp 41], argTypes := #[29, 3, 39] }, none⟩,
    ⟨some 36, .move (.tmp 42), none⟩,
    ⟨some 43, .extract (.tmp 36) 0, none⟩,
    ⟨some 44, .extract (.tmp 36) 1, none⟩,
    ⟨some 45, .extract (.tmp 36) 2, none⟩,
    ⟨some 11, .alloc 35, none⟩,
    ⟨none, .store 29 (.tmp 7) (.tmp 43), none⟩,
    ⟨none, .store 35 (.tmp 11) (.tmp 44), none⟩,
    ⟨some 12, .assign (.tmp 45), none⟩]) (.seq (.reg [⟨some 46, .move (.tmp 2), none⟩,
    ⟨some 47, .call { callee := .value (.func 16), args := #[.tmp 46, .const (.int .i64 120)], argTypes := #[3, 3] }, none⟩,
    ⟨some 13, .assign (.tmp 47), none⟩]) (.seq (.reg [⟨some 49, .load 29 (.tmp 7), none⟩,
    ⟨some 50, .fieldAddr 29 (.tmp 7) 0, none⟩,
    ⟨some 51, .load 3 (.tmp 50), none⟩,
    ⟨some 52, .move (.tmp 13), none⟩,
    ⟨some 53, .binOp .add 3 (.tmp 51) (.tmp 52) 3, none⟩,
    ⟨some 54, .build 39 #[(0, .const (.int .i64 2)), (1, .const (.string { data := #[97] }))], none⟩,
    ⟨some 55, .call { callee := .value (.func 17), args := #[.tmp 49, .tmp 53, .tmp 54], argTypes := #[29, 3, 39] }, none⟩,
    ⟨some 48, .move (.tmp 55), none⟩,
    ⟨some 56, .extract (.tmp 48) 0, none⟩,
    ⟨some 57, .extract (.tmp 48) 1, none⟩,
    ⟨some 58, .extract (.tmp 48) 2, none⟩,
    ⟨some 14, .alloc 29, none⟩,
    ⟨some 15, .alloc 35, none⟩,
    ⟨none, .store 29 (.tmp 14) (.tmp 56), none⟩,
    ⟨none, .store 35 (.tmp 15) (.tmp 57), none⟩,
    ⟨some 16, .assign (.tmp 58), none⟩]) (.seq (.reg [⟨some 60, .load 29 (.tmp 7), none⟩,
    ⟨some 61, .fieldAddr 29 (.tmp 7) 0, none⟩,
    ⟨some 62, .load 3 (.tmp 61), none⟩,
    ⟨some 63, .move (.tmp 13), none⟩,
    ⟨some 64, .binOp .add 3 (.tmp 62) (.tmp 63) 3, none⟩,
    ⟨some 65, .build 39 #[(0, .const (.int .i64 21)), (1, .const (.string { data := #[97] }))], none⟩,
    ⟨some 66, .call { callee := .value (.func 17), args := #[.tmp 60, .tmp 64, .tmp 65], argTypes := #[29, 3, 39] }, none⟩,
    ⟨some 59, .move (.tmp 66), none⟩,
    ⟨some 67, .extract (.tmp 59) 0, none⟩,
    ⟨some 68, .extract (.tmp 59) 1, none⟩,
    ⟨some 69, .extract (.tmp 59) 2, none⟩,
    ⟨some 17, .alloc 29, none⟩,
    ⟨some 18, .alloc 35, none⟩,
    ⟨none, .store 29 (.tmp 17) (.tmp 67), none⟩,
    ⟨none, .store 35 (.tmp 18) (.tmp 68), none⟩,
    ⟨some 19, .assign (.tmp 69), none⟩]) (.seq (.seq (.reg [⟨some 70, .move (.tmp 9), none⟩,
    ⟨some 71, .binOp .neq 32 (.tmp 70) (.const (.int .i64 0)) 32, none⟩,
    ⟨some 72, .move (.tmp 71), none⟩,
    ⟨some 73, .move (.tmp 12), some (72, false)⟩,
    ⟨some 74, .binOp .neq 32 (.tmp 73) (.const (.int .i64 0)) 32, some (72, false)⟩,
    ⟨some 75, .pick (.tmp 72) (.const (.bool true)) (.tmp 74), none⟩,
    ⟨some 76, .move (.tmp 75), none⟩,
    ⟨some 77, .move (.tmp 16), some (76, false)⟩,
    ⟨some 78, .binOp .neq 32 (.tmp 77) (.const (.int .i64 0)) 32, some (76, false)⟩,
    ⟨some 79, .pick (.tmp 76) (.const (.bool true)) (.tmp 78), none⟩,
    ⟨some 80, .move (.tmp 79), none⟩,
    ⟨some 81, .move (.tmp 19), some (80, false)⟩,
    ⟨some 82, .binOp .neq 32 (.tmp 81) (.const (.int .i64 0)) 32, some (80, false)⟩,
    ⟨some 83, .pick (.tmp 80) (.const (.bool true)) (.tmp 82), none⟩]) (.cond (.tmp 83) (.seq (.reg [⟨some 6, .assign (.const (.bool false)), none⟩]) .ret) .skip)) (.seq (.seq (.reg [⟨some 84, .fieldAddr 35 (.tmp 8) 0, none⟩,
    ⟨some 85, .load 32 (.tmp 84), none⟩,
    ⟨some 86, .binOp .neq 32 (.tmp 85) (.const (.int .i64 0)) 32, none⟩]) (.cond (.tmp 86) (.seq (.reg [⟨some 87, .fieldAddr 35 (.tmp 8) 0, none⟩,
    ⟨some 88, .load 32 (.tmp 87), none⟩,
    ⟨some 89, .binOp .eql 32 (.tmp 88) (.const (.int .i64 6)) 32, none⟩,
    ⟨some 90, .move (.tmp 89), none⟩,
    ⟨some 91, .fieldAddr 35 (.tmp 11) 0, some (90, true)⟩,
    ⟨some 92, .load 32 (.tmp 91), some (90, true)⟩,
    ⟨some 93, .binOp .eql 32 (.tmp 92) (.const (.int .i64 5)) 32, some (90, true)⟩,
    ⟨some 94, .pick (.tmp 90) (.tmp 93) (.const (.bool false)), none⟩,
    ⟨some 6, .assign (.tmp 94), none⟩]) .ret) .skip)) (.seq (.reg [⟨some 96, .load 29 (.tmp 14), none⟩,
    ⟨some 97, .call { callee := .value (.func 21), args := #[.tmp 96, .const (.string { data := #[97] })], argTypes := #[29, 9] }, none⟩,
    ⟨some 95, .move (.tmp 97), none⟩,
    ⟨some 98, .extract (.tmp 95) 0, none⟩,
    ⟨some 99, .extract (.tmp 95) 1, none⟩,
    ⟨some 20, .alloc 49, none⟩,
    ⟨none, .store 49 (.tmp 20) (.tmp 98), none⟩,
    ⟨some 21, .assign (.tmp 99), none⟩]) (.seq (.seq (.reg [⟨some 100, .move (.tmp 13), none⟩,
    ⟨some 101, .move (.tmp 10), none⟩,
    ⟨some 102, .binOp .geq 3 (.tmp 100) (.tmp 101) 3, none⟩]) (.cond (.tmp 102) (.seq (.reg [⟨some 103, .fieldAddr 35 (.tmp 15) 0, none⟩,
    ⟨some 104, .load 32 (.tmp 103), none⟩,
    ⟨some 105, .binOp .eql 32 (.tmp 104) (.const (.int .i64 5)) 32, none⟩,
    ⟨some 106, .move (.tmp 105), none⟩,
    ⟨some 107, .fieldAddr 35 (.tmp 18) 0, some (106, true)⟩,
    ⟨some 108, .load 32 (.tmp 107), some (106, true)⟩,
    ⟨some 109, .binOp .eql 32 (.tmp 108) (.const (.int .i64 5)) 32, some (106, true)⟩,
    ⟨some 110, .pick (.tmp 106) (.tmp 109) (.const (.bool false)), none⟩,
    ⟨some 111, .move (.tmp 110), none⟩,
    ⟨some 112, .move (.tmp 21), some (111, true)⟩,
    ⟨some 113, .unOp .not 4 (.tmp 112), some (111, true)⟩,
    ⟨some 114, .pick (.tmp 111) (.tmp 113) (.const (.bool false)), none⟩,
    ⟨some 6, .assign (.tmp 114), none⟩]) .ret) .skip)) (.seq (.reg [⟨some 115, .fieldAddr 35 (.tmp 15) 1, none⟩,
    ⟨some 116, .load 9 (.tmp 115), none⟩,
    ⟨some 117, .binOp .eql 9 (.tmp 116) (.const (.string { data := #[120] })) 9, none⟩,
    ⟨some 118, .move (.tmp 117), none⟩,
    ⟨some 119, .fieldAddr 35 (.tmp 18) 2, some (118, true)⟩,
    ⟨some 120, .load 3 (.tmp 119), some (118, true)⟩,
    ⟨some 121, .move (.tmp 10), some (118, true)⟩,
    ⟨some 122, .move (.tmp 13), some (118, true)⟩,
    ⟨some 123, .binOp .sub 3 (.tmp 121) (.tmp 122) 3, some (118, true)⟩,
    ⟨some 124, .binOp .eql 3 (.tmp 120) (.tmp 123) 3, some (118, true)⟩,
    ⟨some 125, .pick (.tmp 118) (.tmp 124) (.const (.bool false)), none⟩,
    ⟨some 126, .move (.tmp 125), none⟩,
    ⟨some 127, .move (.tmp 21), some (126, true)⟩,
    ⟨some 128, .pick (.tmp 126) (.tmp 127) (.const (.bool false)), none⟩,
    ⟨some 6, .assign (.tmp 128), none⟩]) .ret))))))))))))
theorem rs_rostrumkeep_ExpireGone : Try.f6.results.toList = [.tmp 6] := rfl
theorem ok_rostrumkeep_ExpireGone : Try.f6.body.bind (comp Try.f6.ntmps) = some ac_rostrumkeep_ExpireGone := by kernel_rfl
variable {G : Nat → AV}
theorem expireGone_c (l : List Stp) (n m : Int) (hl : ∀ x ∈ l, x.Ok) (hll : (l.length : Int) ≤ 9223372036854775807) (hn : i64 n) (hm : i64 m) : PCall Try.prog G 6 [.one (.v (.sl (l.map Stp.row))), iV n, iV m] (bV true) := by
  have hst := storeK_c (G := G) l hl hll
  obtain ⟨hs, hs2⟩ := storeV_ok l hl
  generalize storeV l = s at *
  have hp := pk_range (n := n) (m := 90) (by omega)
  have hpk := picked_c (G := G) n 90 hn (by omega)
  have hq := pk_range (n := m) (m := 120) (by omega)
  have hqk := picked_c (G := G) m 120 hm (by omega)
  generalize pk n 90 = p at *
  generalize pk m 120 = q at *
  have hnow := hs.ok.now
  have w1 : IntKind.i64.wrap (1 + p) = 1 + p := IntWalk.i64_in _ (by omega)
  have w2 : IntKind.i64.wrap (s.now + q) = s.now + q := IntWalk.i64_in _ (by omega)
  obtain ⟨l1, l2, e1, o1, e2, o2, ha, hb⟩ := expire_p hs (by omega) (k := 1 + p) (w := q) (by omega) (by omega) (by omega) (by omega)
  have h1 := apply_c (G := G) s s.now (putK aK xS) hs.ok.small
  have h2 := apply_c (G := G) ⟨s.now, l1⟩ s.now (expC aK (1 + p)) o1.small
  have h3 := apply_c (G := G) ⟨s.now, l2⟩ (s.now + q) (getK aK) o2.small
  have h4 := apply_c (G := G) ⟨s.now, l2⟩ (s.now + q) (lifeC aK) o2.small
  rw [e1] at h1
  rw [e2] at h2
  by_cases hc : 1 + p ≤ q
  · obtain ⟨l3, e3, o3, e4, g⟩ := ha hc
    rw [e3] at h3
    rw [e4] at h4
    have h5 := entry_c (G := G) ⟨s.now + q, l3⟩ aK (Nat.le_trans o3.len (by omega))
    simp only [g] at h5
    clear ha hb e1 e2 e3 e4
    obtain ⟨now, ents⟩ := s
    simp only at *
    have q1 : decide (1 + p ≤ q) = true := by simpa using hc
    simp only [ApA, Sto.c, Cmd.c, Rep.c, putK, expC, getK, lifeC, toldR, failR, aK, xS, List.map_nil, entO, Option.getD_none, Option.isSome_none, Ent.c, zeroV] at h1 h2 h3 h4 h5 hst
    refine pcall mixed Try.func6 ok_rostrumkeep_ExpireGone rs_rostrumkeep_ExpireGone (by simp [Try.f6]) ?_
    unfold ac_rostrumkeep_ExpireGone
    repeat' (first | (with_reducible first | refine Cnd.intro (fun h => ?_) (fun h => ?_) | refine And.intro ?_ ?_ | refine Wk.refl ?_ | exact Weak.refl _ _ | refine weak_auto ?_ | apply awp_join) | ((try with_reducible refine CallZ.l ?_); with_reducible refine qcf (by first | exact hst | exact hpk | exact hqk | exact h1 | exact h2 | exact h3 | exact h4 | exact h5) ?_ ?_) | ((try with_reducible refine CallZ.l ?_); with_reducible refine qcn (by first | exact qkc hst (by with_unfolding_all rfl) | exact qkc hpk (by with_unfolding_all rfl) | exact qkc hqk (by with_unfolding_all rfl) | exact qkc h1 (by with_unfolding_all rfl) | exact qkc h2 (by with_unfolding_all rfl) | exact qkc h3 (by with_unfolding_all rfl) | exact qkc h4 (by with_unfolding_all rfl) | exact qkc h5 (by with_unfolding_all rfl)) ?_) | ((with_reducible refine qcz (by first | exact qkz hst (by with_unfolding_all rfl) | exact qkz hpk (by with_unfolding_all rfl) | exact qkz hqk (by with_unfolding_all rfl) | exact qkz h1 (by with_unfolding_all rfl) | exact qkz h2 (by with_unfolding_all rfl) | exact qkz h3 (by with_unfolding_all rfl) | exact qkz h4 (by with_unfolding_all rfl) | exact qkz h5 (by with_unfolding_all rfl)) ?_); intro zh1 zq1; (try simp -dsimp [go_sem] at zq1); obtain ⟨rfl⟩ := zq1) | (with_reducible refine CallZ.z ?_) | simp -dsimp [go_sem, w1, w2, q1])
    all_goals trace_state
  · obtain ⟨l3, l4, e3, o3, e4, o4, y, g⟩ := hb (by omega)
    rw [e3] at h3
    rw [e4] at h4
    have h5 := entry_c (G := G) ⟨s.now + q, l3⟩ aK (Nat.le_trans o3.len (by omega))
    simp only [g] at h5
    clear ha hb e1 e2 e3 e4
    obtain ⟨now, ents⟩ := s
    obtain ⟨yk, ⟨y1, y2, y3, y4, y5, y6⟩, yt⟩ := y
    simp only at *
    have q1 : decide (1 + p ≤ q) = false := by simpa using hc
    have w3 : IntKind.i64.wrap (1 + p - q) = 1 + p - q := IntWalk.i64_in _ (by omega)
    simp only [ApA, Sto.c, Cmd.c, Rep.c, putK, expC, getK, lifeC, toldR, textR, aK, xS, List.map_nil, entO, Option.getD_some, Option.isSome_some, Ent.c] at h1 h2 h3 h4 h5 hst
    refine pcall mixed Try.func6 ok_rostrumkeep_ExpireGone rs_rostrumkeep_ExpireGone (by simp [Try.f6]) ?_
    unfold ac_rostrumkeep_ExpireGone
    repeat' (first | (with_reducible first | refine Cnd.intro (fun h => ?_) (fun h => ?_) | refine And.intro ?_ ?_ | refine Wk.refl ?_ | exact Weak.refl _ _ | refine weak_auto ?_ | apply awp_join) | ((try with_reducible refine CallZ.l ?_); with_reducible refine qcf (by first | exact hst | exact hpk | exact hqk | exact h1 | exact h2 | exact h3 | exact h4 | exact h5) ?_ ?_) | ((try with_reducible refine CallZ.l ?_); with_reducible refine qcn (by first | exact qkc hst (by with_unfolding_all rfl) | exact qkc hpk (by with_unfolding_all rfl) | exact qkc hqk (by with_unfolding_all rfl) | exact qkc h1 (by with_unfolding_all rfl) | exact qkc h2 (by with_unfolding_all rfl) | exact qkc h3 (by with_unfolding_all rfl) | exact qkc h4 (by with_unfolding_all rfl) | exact qkc h5 (by with_unfolding_all rfl)) ?_) | ((with_reducible refine qcz (by first | exact qkz hst (by with_unfolding_all rfl) | exact qkz hpk (by with_unfolding_all rfl) | exact qkz hqk (by with_unfolding_all rfl) | exact qkz h1 (by with_unfolding_all rfl) | exact qkz h2 (by with_unfolding_all rfl) | exact qkz h3 (by with_unfolding_all rfl) | exact qkz h4 (by with_unfolding_all rfl) | exact qkz h5 (by with_unfolding_all rfl)) ?_); intro zh1 zq1; (try simp -dsimp [go_sem] at zq1); obtain ⟨rfl⟩ := zq1) | (with_reducible refine CallZ.z ?_) | simp -dsimp [go_sem, w1, w2, w3, q1])
    all_goals trace_state
end Go.Proofs.Ytmaiphnabebplaa
