/- The function CountRest answers true. -/
import Derived.Test.YtacdeehkdepiaaaL1
set_option linter.unusedVariables false
set_option linter.unusedSimpArgs false
set_option maxRecDepth 100000
set_option maxHeartbeats 8000000
namespace Go.Proofs.Ytacdeehkdepiaaa
open Go Go.RowKit Go.Proofs.AE
variable {G : Nat → AV}
def ac_rostrumkeep_CountRest : ACode := .seq (.reg [⟨some 4, .assign (.const (.bool false)), none⟩]) (.seq (.reg [⟨some 19, .move (.tmp 0), none⟩,
    ⟨some 20, .call { callee := .value (.func 28), args := #[.tmp 19, .const (.int .i64 1073741824)], argTypes := #[3, 3] }, none⟩,
    ⟨some 5, .assign (.tmp 20), none⟩]) (.seq (.reg [⟨some 21, .move (.tmp 1), none⟩,
    ⟨some 22, .call { callee := .value (.func 28), args := #[.tmp 21, .const (.int .i64 1073741824)], argTypes := #[3, 3] }, none⟩,
    ⟨some 6, .assign (.tmp 22), none⟩]) (.seq (.reg [⟨some 24, .build 29 #[], none⟩,
    ⟨some 25, .move (.tmp 5), none⟩,
    ⟨some 26, .build 34 #[(0, .const (.int .i64 3)), (1, .const (.string { data := #[107] })), (4, .tmp 25)], none⟩,
    ⟨some 27, .call { callee := .value (.func 24), args := #[.tmp 24, .tmp 26], argTypes := #[29, 34] }, none⟩,
    ⟨some 23, .move (.tmp 27), none⟩,
    ⟨some 28, .extract (.tmp 23) 0, none⟩,
    ⟨some 29, .extract (.tmp 23) 1, none⟩,
    ⟨some 30, .extract (.tmp 23) 2, none⟩,
    ⟨some 7, .alloc 29, none⟩,
    ⟨some 8, .alloc 37, none⟩,
    ⟨none, .store 29 (.tmp 7) (.tmp 28), none⟩,
    ⟨none, .store 37 (.tmp 8) (.tmp 29), none⟩,
    ⟨some 9, .assign (.tmp 30), none⟩]) (.seq (.reg [⟨some 32, .load 29 (.tmp 7), none⟩,
    ⟨some 33, .move (.tmp 6), none⟩,
    ⟨some 34, .build 34 #[(0, .const (.int .i64 3)), (1, .const (.string { data := #[107] })), (4, .tmp 33)], none⟩,
    ⟨some 35, .call { callee := .value (.func 24), args := #[.tmp 32, .tmp 34], argTypes := #[29, 34] }, none⟩,
    ⟨some 31, .move (.tmp 35), none⟩,
    ⟨some 36, .extract (.tmp 31) 0, none⟩,
    ⟨some 37, .extract (.tmp 31) 1, none⟩,
    ⟨some 38, .extract (.tmp 31) 2, none⟩,
    ⟨some 10, .alloc 29, none⟩,
    ⟨some 11, .alloc 37, none⟩,
    ⟨none, .store 29 (.tmp 10) (.tmp 36), none⟩,
    ⟨none, .store 37 (.tmp 11) (.tmp 37), none⟩,
    ⟨some 12, .assign (.tmp 38), none⟩]) (.seq (.reg [⟨some 40, .load 29 (.tmp 10), none⟩,
    ⟨some 41, .move (.tmp 6), none⟩,
    ⟨some 42, .unOp .neg 3 (.tmp 41), none⟩,
    ⟨some 43, .build 34 #[(0, .const (.int .i64 3)), (1, .const (.string { data := #[107] })), (4, .tmp 42)], none⟩,
    ⟨some 44, .call { callee := .value (.func 24), args := #[.tmp 40, .tmp 43], argTypes := #[29, 34] }, none⟩,
    ⟨some 39, .move (.tmp 44), none⟩,
    ⟨some 45, .extract (.tmp 39) 0, none⟩,
    ⟨some 46, .extract (.tmp 39) 1, none⟩,
    ⟨some 47, .extract (.tmp 39) 2, none⟩,
    ⟨some 13, .alloc 29, none⟩,
    ⟨some 14, .alloc 37, none⟩,
    ⟨none, .store 29 (.tmp 13) (.tmp 45), none⟩,
    ⟨none, .store 37 (.tmp 14) (.tmp 46), none⟩,
    ⟨some 15, .assign (.tmp 47), none⟩]) (.seq (.reg [⟨some 49, .load 29 (.tmp 13), none⟩,
    ⟨some 50, .move (.tmp 5), none⟩,
    ⟨some 51, .unOp .neg 3 (.tmp 50), none⟩,
    ⟨some 52, .build 34 #[(0, .const (.int .i64 3)), (1, .const (.string { data := #[107] })), (4, .tmp 51)], none⟩,
    ⟨some 53, .call { callee := .value (.func 24), args := #[.tmp 49, .tmp 52], argTypes := #[29, 34] }, none⟩,
    ⟨some 48, .move (.tmp 53), none⟩,
    ⟨some 54, .extract (.tmp 48) 0, none⟩,
    ⟨some 55, .extract (.tmp 48) 1, none⟩,
    ⟨some 56, .extract (.tmp 48) 2, none⟩,
    ⟨some 16, .alloc 29, none⟩,
    ⟨some 17, .alloc 37, none⟩,
    ⟨none, .store 29 (.tmp 16) (.tmp 54), none⟩,
    ⟨none, .store 37 (.tmp 17) (.tmp 55), none⟩,
    ⟨some 18, .assign (.tmp 56), none⟩]) (.seq (.reg [⟨some 57, .move (.tmp 9), none⟩,
    ⟨some 58, .binOp .eql 31 (.tmp 57) (.const (.int .i64 0)) 31, none⟩,
    ⟨some 59, .move (.tmp 58), none⟩,
    ⟨some 60, .move (.tmp 12), some (59, true)⟩,
    ⟨some 61, .binOp .eql 31 (.tmp 60) (.const (.int .i64 0)) 31, some (59, true)⟩,
    ⟨some 62, .pick (.tmp 59) (.tmp 61) (.const (.bool false)), none⟩,
    ⟨some 63, .move (.tmp 62), none⟩,
    ⟨some 64, .move (.tmp 15), some (63, true)⟩,
    ⟨some 65, .binOp .eql 31 (.tmp 64) (.const (.int .i64 0)) 31, some (63, true)⟩,
    ⟨some 66, .pick (.tmp 63) (.tmp 65) (.const (.bool false)), none⟩,
    ⟨some 67, .move (.tmp 66), none⟩,
    ⟨some 68, .move (.tmp 18), some (67, true)⟩,
    ⟨some 69, .binOp .eql 31 (.tmp 68) (.const (.int .i64 0)) 31, some (67, true)⟩,
    ⟨some 70, .pick (.tmp 67) (.tmp 69) (.const (.bool false)), none⟩,
    ⟨some 71, .move (.tmp 70), none⟩,
    ⟨some 72, .fieldAddr 37 (.tmp 14) 2, some (71, true)⟩,
    ⟨some 73, .load 3 (.tmp 72), some (71, true)⟩,
    ⟨some 74, .move (.tmp 5), some (71, true)⟩,
    ⟨some 75, .binOp .eql 3 (.tmp 73) (.tmp 74) 3, some (71, true)⟩,
    ⟨some 76, .pick (.tmp 71) (.tmp 75) (.const (.bool false)), none⟩,
    ⟨some 77, .move (.tmp 76), none⟩,
    ⟨some 78, .fieldAddr 37 (.tmp 17) 2, some (77, true)⟩,
    ⟨some 79, .load 3 (.tmp 78), some (77, true)⟩,
    ⟨some 80, .binOp .eql 3 (.tmp 79) (.const (.int .i64 0)) 3, some (77, true)⟩,
    ⟨some 81, .pick (.tmp 77) (.tmp 80) (.const (.bool false)), none⟩,
    ⟨some 82, .move (.tmp 81), none⟩,
    ⟨some 83, .load 29 (.tmp 7), some (82, true)⟩,
    ⟨some 84, .load 29 (.tmp 13), some (82, true)⟩,
    ⟨some 85, .call { callee := .value (.func 25), args := #[.tmp 83, .tmp 84], argTypes := #[29, 29] }, some (82, true)⟩,
    ⟨some 86, .pick (.tmp 82) (.tmp 85) (.const (.bool false)), none⟩,
    ⟨some 87, .move (.tmp 86), none⟩,
    ⟨some 88, .fieldAddr 29 (.tmp 16) 0, some (87, true)⟩,
    ⟨some 89, .load 3 (.tmp 88), some (87, true)⟩,
    ⟨some 90, .binOp .eql 3 (.tmp 89) (.const (.int .i64 2)) 3, some (87, true)⟩,
    ⟨some 91, .pick (.tmp 87) (.tmp 90) (.const (.bool false)), none⟩,
    ⟨some 92, .move (.tmp 91), none⟩,
    ⟨some 93, .load 29 (.tmp 16), some (92, true)⟩,
    ⟨some 94, .call { callee := .value (.func 22), args := #[.tmp 93], argTypes := #[29] }, some (92, true)⟩,
    ⟨some 95, .binOp .eql 31 (.tmp 94) (.const (.int .i64 0)) 31, some (92, true)⟩,
    ⟨some 96, .pick (.tmp 92) (.tmp 95) (.const (.bool false)), none⟩,
    ⟨some 4, .assign (.tmp 96), none⟩]) .ret)))))))
theorem rs_rostrumkeep_CountRest : Try.f20.results.toList = [.tmp 4] := rfl
theorem ok_rostrumkeep_CountRest : Try.f20.body.bind (comp Try.f20.ntmps) = some ac_rostrumkeep_CountRest := by kernel_rfl
def addC (n : Int) : Cmd := ⟨3, ⟨#[107]⟩, ⟨#[]⟩, ⟨#[]⟩, n⟩
def cntV (n : Int) : Val := ⟨2, ⟨#[]⟩, n, [], [], []⟩
theorem addC_ok {n : Int} (h : okCount n = true) : checkC (addC n) = 0 := by
  unfold checkC addC checkCommand
  simp only
  have h1 : okField ⟨#[107]⟩ = true := rfl
  have h2 : okText ⟨#[]⟩ = true := rfl
  simp [formOk, h, h1, h2]
theorem cntV_ok {n : Int} (h : okCount n = true) : OkV (cntV n) :=
  ⟨⟨(by show (1 : Int) ≤ 2; omega), (by show (2 : Int) ≤ 6; omega)⟩, .inr rfl, .inl rfl, .inr rfl, .inr (.inr rfl), .inr rfl, fun h => absurd h (by show ¬ (3 : Int) ≤ 2; omega), rfl, by simp [cntV], by simp [cntV], by simp [cntV], h, .nil, .nil, fun _ => .nil, .nil⟩
theorem cntV_small (n : Int) : (cntV n).Small := ⟨Nat.zero_le _, Nat.zero_le _, Nat.zero_le _⟩
theorem add_zero' {n : Int} (h : okCount n = true) : DoV zeroV (addC n) = (cntV n, toldR n, 0) := by
  rw [DoV_zero (addC_ok h) (by show (3 : Int) ≤ 18; omega), if_pos (show makesC _ = true from rfl)]
  have : doV ⟨kindOfC (addC n).kind, ⟨#[]⟩, 0, [], [], []⟩ (addC n) = (cntV n, toldR n) := by
    unfold doV
    simp [addC, h, cntV, kindOfC]
  rw [this]
  exact DoEnd_some rfl (fun h => absurd h.1 (by show ¬ (3 : Int) ≤ 2; omega))
theorem add_mism (m n : Int) : ¬ ((kindOfC (addC n).kind ≠ 0 ∧ kindOfC (addC n).kind ≠ (cntV m).kind) ∨ (17 ≤ (addC n).kind ∧ (cntV m).kind < 3)) := by
  simp [addC, cntV, kindOfC]
theorem add_more {m n : Int} (h1 : okCount m = true) (h2 : okCount n = true) (h : okCount (m + n) = true) : DoV (cntV m) (addC n) = (cntV (m + n), toldR (m + n), 0) := by
  rw [DoV_go (checkV_iff.2 (cntV_ok h1)) (addC_ok h2) (by show (3 : Int) ≤ 18; omega) (add_mism m n)]
  have : doV (cntV m) (addC n) = (cntV (m + n), toldR (m + n)) := by
    unfold doV
    simp [addC, h, cntV]
  rw [this]
  exact DoEnd_some rfl (fun h => absurd h.1 (by show ¬ (3 : Int) ≤ 2; omega))
theorem add_over {m n : Int} (h1 : okCount m = true) (h2 : okCount n = true) (h : okCount (m + n) = false) : DoV (cntV m) (addC n) = (cntV m, failR 7, 0) := by
  rw [DoV_go (checkV_iff.2 (cntV_ok h1)) (addC_ok h2) (by show (3 : Int) ≤ 18; omega) (add_mism m n)]
  have : doV (cntV m) (addC n) = (cntV m, failR 7) := by
    unfold doV
    simp [addC, h, cntV]
  rw [this]
  exact DoEnd_fail (by simp [failR])
theorem okCount_iff (n : Int) : okCount n = true ↔ -1099511627776 ≤ n ∧ n ≤ 1099511627776 := by
  unfold okCount; simp
theorem countRest_c (n m : Int) (hn : i64 n) (hm : i64 m) : PCall Try.prog G 20 [iV n, iV m] (bV true) := by
  have ha := pk_range (n := n) (m := 1073741824) (by omega)
  have hb := pk_range (n := m) (m := 1073741824) (by omega)
  have p1 := picked_c (G := G) n 1073741824 hn (by omega)
  have p2 := picked_c (G := G) m 1073741824 hm (by omega)
  generalize pk n 1073741824 = a at *
  generalize pk m 1073741824 = b at *
  have d1 := Do_c (G := G) zeroV (addC a) zeroV_small
  have d2 := Do_c (G := G) (cntV a) (addC b) (cntV_small a)
  have d3 := Do_c (G := G) (cntV (a + b)) (addC (-b)) (cntV_small _)
  have d4 := Do_c (G := G) (cntV a) (addC (-a)) (cntV_small _)
  rw [add_zero' ((okCount_iff _).2 (by omega))] at d1
  rw [add_more ((okCount_iff _).2 (by omega)) ((okCount_iff _).2 (by omega)) ((okCount_iff _).2 (by omega))] at d2
  rw [add_more ((okCount_iff _).2 (by omega)) ((okCount_iff _).2 (by omega)) ((okCount_iff _).2 (by omega))] at d3
  rw [add_more ((okCount_iff _).2 (by omega)) ((okCount_iff _).2 (by omega)) ((okCount_iff _).2 (by omega))] at d4
  rw [show a + b + -b = a by omega] at d3
  rw [show a + -a = 0 by omega] at d4
  have hs := sameValue_c (G := G) (cntV a) (cntV a) (cntV_small a)
  have hk := checkV_c (G := G) (cntV 0) (cntV_small 0)
  rw [checkV_iff.2 (cntV_ok (n := 0) rfl)] at hk
  have w1 : IntKind.i64.wrap (-b) = -b := IntWalk.i64_in _ (by omega)
  have w2 : IntKind.i64.wrap (-a) = -a := IntWalk.i64_in _ (by omega)
  rw [zeroA] at d1
  simp only [DoA, Val.c, Rep.c, Cmd.c, toldR, cntV, addC, decide_true, List.map_nil] at d1 d2 d3 d4 hs hk
  refine pcall mixed Try.func20 ok_rostrumkeep_CountRest rs_rostrumkeep_CountRest (by simp [Try.f20]) ?_
  unfold ac_rostrumkeep_CountRest
  repeat' (first | (with_reducible first | refine Cnd.intro (fun h => ?_) (fun h => ?_) | refine And.intro ?_ ?_ | refine Wk.refl ?_ | exact Weak.refl _ _ | refine weak_auto ?_ | apply awp_join) | ((try with_reducible refine CallZ.l ?_); with_reducible refine qcf (by first | exact p1 | exact p2 | exact d1 | exact d2 | exact d3 | exact d4 | exact hs | exact hk) ?_ ?_) | ((try with_reducible refine CallZ.l ?_); with_reducible refine qcn (by first | exact qkc p1 (by with_unfolding_all rfl) | exact qkc p2 (by with_unfolding_all rfl) | exact qkc d1 (by with_unfolding_all rfl) | exact qkc d2 (by with_unfolding_all rfl) | exact qkc d3 (by with_unfolding_all rfl) | exact qkc d4 (by with_unfolding_all rfl) | exact qkc hs (by with_unfolding_all rfl) | exact qkc hk (by with_unfolding_all rfl)) ?_) | ((with_reducible refine qcz (by first | exact qkz p1 (by with_unfolding_all rfl) | exact qkz p2 (by with_unfolding_all rfl) | exact qkz d1 (by with_unfolding_all rfl) | exact qkz d2 (by with_unfolding_all rfl) | exact qkz d3 (by with_unfolding_all rfl) | exact qkz d4 (by with_unfolding_all rfl) | exact qkz hs (by with_unfolding_all rfl) | exact qkz hk (by with_unfolding_all rfl)) ?_); intro zh1 zq1; (try simp -dsimp [go_sem] at zq1); obtain ⟨rfl⟩ := zq1) | (with_reducible refine CallZ.z ?_) | simp -dsimp [go_sem, w1, w2])
end Go.Proofs.Ytacdeehkdepiaaa
