/- The functions RankModel and RankMoves answer true. -/
import Derived.Test.YtacdeehkdepiaaaL6
set_option linter.unusedVariables false
set_option linter.unusedSimpArgs false
set_option maxRecDepth 100000
set_option maxHeartbeats 8000000
namespace Go.Proofs.Ytacdeehkdepiaaa
open Go Go.RowKit Go.Proofs.AE
variable {G : Nat → AV}
def ac_rostrumkeep_RankModel : ACode := .seq (.reg [⟨some 2, .assign (.const (.bool false)), none⟩]) (.seq (.reg [⟨some 14, .move (.tmp 0), none⟩,
    ⟨some 15, .call { callee := .value (.func 21), args := #[.const (.int .i64 5), .tmp 14], argTypes := #[3, 22] }, none⟩,
    ⟨some 3, .alloc 29, none⟩,
    ⟨none, .store 29 (.tmp 3) (.tmp 15), none⟩]) (.seq (.seq (.reg [⟨some 4, .assign (.const (.int .i64 1)), none⟩]) (.block 0 (.loop (.seq (.seq (.reg [⟨some 16, .move (.tmp 4), none⟩,
    ⟨some 17, .fieldAddr 29 (.tmp 3) 5, none⟩,
    ⟨some 18, .load 27 (.tmp 17), none⟩,
    ⟨some 19, .call { callee := .builtin .len, args := #[.tmp 18], argTypes := #[27] }, none⟩,
    ⟨some 20, .binOp .lss 3 (.tmp 16) (.tmp 19) 3, none⟩]) (.cond (.tmp 20) .skip (.exit 0))) (.seq (.block 1 (.seq (.reg [⟨some 23, .fieldAddr 29 (.tmp 3) 5, none⟩,
    ⟨some 24, .load 27 (.tmp 23), none⟩,
    ⟨some 25, .move (.tmp 4), none⟩,
    ⟨some 26, .binOp .sub 3 (.tmp 25) (.const (.int .i64 1)) 3, none⟩,
    ⟨some 27, .indexAddr 27 (.tmp 24) (.tmp 26), none⟩,
    ⟨some 28, .load 56 (.tmp 27), none⟩,
    ⟨some 5, .alloc 56, none⟩,
    ⟨none, .store 56 (.tmp 5) (.tmp 28), none⟩]) (.seq (.reg [⟨some 29, .fieldAddr 29 (.tmp 3) 5, none⟩,
    ⟨some 30, .load 27 (.tmp 29), none⟩,
    ⟨some 31, .move (.tmp 4), none⟩,
    ⟨some 32, .indexAddr 27 (.tmp 30) (.tmp 31), none⟩,
    ⟨some 33, .load 56 (.tmp 32), none⟩,
    ⟨some 6, .alloc 56, none⟩,
    ⟨none, .store 56 (.tmp 6) (.tmp 33), none⟩]) (.seq (.reg [⟨some 34, .fieldAddr 56 (.tmp 5) 1, none⟩,
    ⟨some 35, .load 3 (.tmp 34), none⟩,
    ⟨some 36, .fieldAddr 56 (.tmp 6) 1, none⟩,
    ⟨some 37, .load 3 (.tmp 36), none⟩,
    ⟨some 38, .binOp .gtr 3 (.tmp 35) (.tmp 37) 3, none⟩,
    ⟨some 39, .move (.tmp 38), none⟩,
    ⟨some 40, .fieldAddr 56 (.tmp 5) 1, some (39, false)⟩,
    ⟨some 41, .load 3 (.tmp 40), some (39, false)⟩,
    ⟨some 42, .fieldAddr 56 (.tmp 6) 1, some (39, false)⟩,
    ⟨some 43, .load 3 (.tmp 42), some (39, false)⟩,
    ⟨some 44, .binOp .eql 3 (.tmp 41) (.tmp 43) 3, some (39, false)⟩,
    ⟨some 45, .move (.tmp 44), some (39, false)⟩,
    ⟨some 46, .fieldAddr 56 (.tmp 5) 0, some (45, true)⟩,
    ⟨some 47, .load 9 (.tmp 46), some (45, true)⟩,
    ⟨some 48, .fieldAddr 56 (.tmp 6) 0, some (45, true)⟩,
    ⟨some 49, .load 9 (.tmp 48), some (45, true)⟩,
    ⟨some 50, .binOp .geq 9 (.tmp 47) (.tmp 49) 9, some (45, true)⟩,
    ⟨some 51, .pick (.tmp 45) (.tmp 50) (.const (.bool false)), some (39, false)⟩,
    ⟨some 52, .pick (.tmp 39) (.const (.bool true)) (.tmp 51), none⟩]) (.cond (.tmp 52) (.seq (.reg [⟨some 2, .assign (.const (.bool false)), none⟩]) .ret) .skip))))) (.reg [⟨some 21, .move (.tmp 4), none⟩,
    ⟨some 22, .binOp .add 3 (.tmp 21) (.const (.int .i64 1)) 3, none⟩,
    ⟨some 4, .assign (.tmp 22), none⟩])))))) (.seq (.seq (.reg [⟨some 7, .assign (.const (.int .i64 0)), none⟩]) (.block 2 (.loop (.seq (.seq (.reg [⟨some 53, .move (.tmp 7), none⟩,
    ⟨some 54, .fieldAddr 29 (.tmp 3) 5, none⟩,
    ⟨some 55, .load 27 (.tmp 54), none⟩,
    ⟨some 56, .call { callee := .builtin .len, args := #[.tmp 55], argTypes := #[27] }, none⟩,
    ⟨some 57, .binOp .lss 3 (.tmp 53) (.tmp 56) 3, none⟩]) (.cond (.tmp 57) .skip (.exit 2))) (.seq (.block 3 (.seq (.regD [([⟨some 61, .load 29 (.tmp 3), none⟩,
    ⟨some 62, .fieldAddr 29 (.tmp 3) 5, none⟩,
    ⟨some 63, .load 27 (.tmp 62), none⟩,
    ⟨some 64, .move (.tmp 7), none⟩,
    ⟨some 65, .indexAddr 27 (.tmp 63) (.tmp 64), none⟩,
    ⟨some 66, .fieldAddr 56 (.tmp 65) 0, none⟩,
    ⟨some 67, .load 9 (.tmp 66), none⟩,
    ⟨some 68, .build 34 #[(0, .const (.int .i64 16)), (1, .const (.string { data := #[107] })), (3, .tmp 67)], none⟩,
    ⟨some 69, .call { callee := .value (.func 24), args := #[.tmp 61, .tmp 68], argTypes := #[29, 34] }, none⟩,
    ⟨some 60, .move (.tmp 69), none⟩,
    ⟨some 70, .extract (.tmp 60) 0, none⟩,
    ⟨some 71, .extract (.tmp 60) 1, none⟩,
    ⟨some 72, .extract (.tmp 60) 2, none⟩,
    ⟨some 8, .alloc 29, none⟩,
    ⟨some 9, .alloc 37, none⟩,
    ⟨none, .store 29 (.tmp 8) (.tmp 70), none⟩,
    ⟨none, .store 37 (.tmp 9) (.tmp 71), none⟩,
    ⟨some 10, .assign (.tmp 72), none⟩], [(0, 13), (0, 14), (2, 13), (2, 14), (4, 13), (4, 14), (6, 13), (6, 14)]), ([⟨some 61, .load 29 (.tmp 3), none⟩,
    ⟨some 62, .fieldAddr 29 (.tmp 3) 5, none⟩,
    ⟨some 63, .load 27 (.tmp 62), none⟩,
    ⟨some 64, .move (.tmp 7), none⟩,
    ⟨some 65, .indexAddr 27 (.tmp 63) (.tmp 64), none⟩,
    ⟨some 66, .fieldAddr 56 (.tmp 65) 0, none⟩,
    ⟨some 67, .load 9 (.tmp 66), none⟩,
    ⟨some 68, .build 34 #[(0, .const (.int .i64 16)), (1, .const (.string { data := #[107] })), (3, .tmp 67)], none⟩,
    ⟨some 69, .call { callee := .value (.func 24), args := #[.tmp 61, .tmp 68], argTypes := #[29, 34] }, none⟩,
    ⟨some 60, .move (.tmp 69), none⟩,
    ⟨some 70, .extract (.tmp 60) 0, none⟩,
    ⟨some 71, .extract (.tmp 60) 1, none⟩,
    ⟨some 72, .extract (.tmp 60) 2, none⟩,
    ⟨some 9, .alloc 37, none⟩,
    ⟨some 8, .alloc 29, none⟩,
    ⟨none, .store 29 (.tmp 8) (.tmp 70), none⟩,
    ⟨none, .store 37 (.tmp 9) (.tmp 71), none⟩,
    ⟨some 10, .assign (.tmp 72), none⟩], [(0, 13), (0, 14), (2, 13), (2, 14), (4, 13), (4, 14), (6, 13), (6, 14)]), ([⟨some 61, .load 29 (.tmp 3), none⟩,
    ⟨some 62, .fieldAddr 29 (.tmp 3) 5, none⟩,
    ⟨some 63, .load 27 (.tmp 62), none⟩,
    ⟨some 64, .move (.tmp 7), none⟩,
    ⟨some 65, .indexAddr 27 (.tmp 63) (.tmp 64), none⟩,
    ⟨some 66, .fieldAddr 56 (.tmp 65) 0, none⟩,
    ⟨some 67, .load 9 (.tmp 66), none⟩,
    ⟨some 68, .build 34 #[(0, .const (.int .i64 16)), (1, .const (.string { data := #[107] })), (3, .tmp 67)], none⟩,
    ⟨some 8, .alloc 29, none⟩,
    ⟨some 69, .call { callee := .value (.func 24), args := #[.tmp 61, .tmp 68], argTypes := #[29, 34] }, none⟩,
    ⟨some 60, .move (.tmp 69), none⟩,
    ⟨some 70, .extract (.tmp 60) 0, none⟩,
    ⟨some 71, .extract (.tmp 60) 1, none⟩,
    ⟨some 72, .extract (.tmp 60) 2, none⟩,
    ⟨some 9, .alloc 37, none⟩,
    ⟨none, .store 29 (.tmp 8) (.tmp 70), none⟩,
    ⟨none, .store 37 (.tmp 9) (.tmp 71), none⟩,
    ⟨some 10, .assign (.tmp 72), none⟩], [(0, 8), (0, 14), (2, 8), (2, 14), (4, 8), (4, 14), (6, 8), (6, 14)]), ([⟨some 61, .load 29 (.tmp 3), none⟩,
    ⟨some 62, .fieldAddr 29 (.tmp 3) 5, none⟩,
    ⟨some 63, .load 27 (.tmp 62), none⟩,
    ⟨some 64, .move (.tmp 7), none⟩,
    ⟨some 65, .indexAddr 27 (.tmp 63) (.tmp 64), none⟩,
    ⟨some 66, .fieldAddr 56 (.tmp 65) 0, none⟩,
    ⟨some 67, .load 9 (.tmp 66), none⟩,
    ⟨some 68, .build 34 #[(0, .const (.int .i64 16)), (1, .const (.string { data := #[107] })), (3, .tmp 67)], none⟩,
    ⟨some 8, .alloc 29, none⟩,
    ⟨some 9, .alloc 37, none⟩,
    ⟨some 69, .call { callee := .value (.func 24), args := #[.tmp 61, .tmp 68], argTypes := #[29, 34] }, none⟩,
    ⟨some 60, .move (.tmp 69), none⟩,
    ⟨some 70, .extract (.tmp 60) 0, none⟩,
    ⟨some 71, .extract (.tmp 60) 1, none⟩,
    ⟨some 72, .extract (.tmp 60) 2, none⟩,
    ⟨none, .store 29 (.tmp 8) (.tmp 70), none⟩,
    ⟨none, .store 37 (.tmp 9) (.tmp 71), none⟩,
    ⟨some 10, .assign (.tmp 72), none⟩], [(0, 8), (0, 9), (2, 8), (2, 9), (4, 8), (4, 9), (6, 8), (6, 9)]), ([⟨some 61, .load 29 (.tmp 3), none⟩,
    ⟨some 62, .fieldAddr 29 (.tmp 3) 5, none⟩,
    ⟨some 63, .load 27 (.tmp 62), none⟩,
    ⟨some 64, .move (.tmp 7), none⟩,
    ⟨some 65, .indexAddr 27 (.tmp 63) (.tmp 64), none⟩,
    ⟨some 66, .fieldAddr 56 (.tmp 65) 0, none⟩,
    ⟨some 67, .load 9 (.tmp 66), none⟩,
    ⟨some 68, .build 34 #[(0, .const (.int .i64 16)), (1, .const (.string { data := #[107] })), (3, .tmp 67)], none⟩,
    ⟨some 9, .alloc 37, none⟩,
    ⟨some 69, .call { callee := .value (.func 24), args := #[.tmp 61, .tmp 68], argTypes := #[29, 34] }, none⟩,
    ⟨some 60, .move (.tmp 69), none⟩,
    ⟨some 70, .extract (.tmp 60) 0, none⟩,
    ⟨some 71, .extract (.tmp 60) 1, none⟩,
    ⟨some 72, .extract (.tmp 60) 2, none⟩,
    ⟨some 8, .alloc 29, none⟩,
    ⟨none, .store 29 (.tmp 8) (.tmp 70), none⟩,
    ⟨none, .store 37 (.tmp 9) (.tmp 71), none⟩,
    ⟨some 10, .assign (.tmp 72), none⟩], [(0, 8), (0, 14), (2, 8), (2, 14), (4, 8), (4, 14), (6, 8), (6, 14)]), ([⟨some 61, .load 29 (.tmp 3), none⟩,
    ⟨some 62, .fieldAddr 29 (.tmp 3) 5, none⟩,
    ⟨some 63, .load 27 (.tmp 62), none⟩,
    ⟨some 64, .move (.tmp 7), none⟩,
    ⟨some 65, .indexAddr 27 (.tmp 63) (.tmp 64), none⟩,
    ⟨some 66, .fieldAddr 56 (.tmp 65) 0, none⟩,
    ⟨some 67, .load 9 (.tmp 66), none⟩,
    ⟨some 68, .build 34 #[(0, .const (.int .i64 16)), (1, .const (.string { data := #[107] })), (3, .tmp 67)], none⟩,
    ⟨some 9, .alloc 37, none⟩,
    ⟨some 8, .alloc 29, none⟩,
    ⟨some 69, .call { callee := .value (.func 24), args := #[.tmp 61, .tmp 68], argTypes := #[29, 34] }, none⟩,
    ⟨some 60, .move (.tmp 69), none⟩,
    ⟨some 70, .extract (.tmp 60) 0, none⟩,
    ⟨some 71, .extract (.tmp 60) 1, none⟩,
    ⟨some 72, .extract (.tmp 60) 2, none⟩,
    ⟨none, .store 29 (.tmp 8) (.tmp 70), none⟩,
    ⟨none, .store 37 (.tmp 9) (.tmp 71), none⟩,
    ⟨some 10, .assign (.tmp 72), none⟩], [(0, 8), (0, 9), (2, 8), (2, 9), (4, 8), (4, 9), (6, 8), (6, 9)])]) (.seq (.reg [⟨some 73, .move (.tmp 10), none⟩,
    ⟨some 74, .binOp .neq 31 (.tmp 73) (.const (.int .i64 0)) 31, none⟩,
    ⟨some 75, .move (.tmp 74), none⟩,
    ⟨some 76, .fieldAddr 37 (.tmp 9) 0, some (75, false)⟩,
    ⟨some 77, .load 31 (.tmp 76), some (75, false)⟩,
    ⟨some 78, .binOp .neq 31 (.tmp 77) (.const (.int .i64 0)) 31, some (75, false)⟩,
    ⟨some 79, .pick (.tmp 75) (.const (.bool true)) (.tmp 78), none⟩,
    ⟨some 80, .move (.tmp 79), none⟩,
    ⟨some 81, .fieldAddr 37 (.tmp 9) 2, some (80, false)⟩,
    ⟨some 82, .load 3 (.tmp 81), some (80, false)⟩,
    ⟨some 83, .move (.tmp 7), some (80, false)⟩,
    ⟨some 84, .binOp .neq 3 (.tmp 82) (.tmp 83) 3, some (80, false)⟩,
    ⟨some 85, .pick (.tmp 80) (.const (.bool true)) (.tmp 84), none⟩]) (.cond (.tmp 85) (.seq (.reg [⟨some 2, .assign (.const (.bool false)), none⟩]) .ret) .skip)))) (.reg [⟨some 58, .move (.tmp 7), none⟩,
    ⟨some 59, .binOp .add 3 (.tmp 58) (.const (.int .i64 1)) 3, none⟩,
    ⟨some 7, .assign (.tmp 59), none⟩])))))) (.seq (.reg [⟨some 87, .load 29 (.tmp 3), none⟩,
    ⟨some 88, .build 34 #[(0, .const (.int .i64 16)), (1, .const (.string { data := #[107] })), (3, .const (.string { data := #[110, 111, 98, 111, 100, 121, 32, 105, 115, 32, 115, 111, 32, 108, 111, 110, 103] }))], none⟩,
    ⟨some 89, .call { callee := .value (.func 24), args := #[.tmp 87, .tmp 88], argTypes := #[29, 34] }, none⟩,
    ⟨some 86, .move (.tmp 89), none⟩,
    ⟨some 90, .extract (.tmp 86) 0, none⟩,
    ⟨some 91, .extract (.tmp 86) 1, none⟩,
    ⟨some 92, .extract (.tmp 86) 2, none⟩,
    ⟨some 11, .alloc 29, none⟩,
    ⟨some 12, .alloc 37, none⟩,
    ⟨none, .store 29 (.tmp 11) (.tmp 90), none⟩,
    ⟨none, .store 37 (.tmp 12) (.tmp 91), none⟩,
    ⟨some 13, .assign (.tmp 92), none⟩]) (.seq (.reg [⟨some 93, .move (.tmp 13), none⟩,
    ⟨some 94, .binOp .eql 31 (.tmp 93) (.const (.int .i64 0)) 31, none⟩,
    ⟨some 95, .move (.tmp 94), none⟩,
    ⟨some 96, .fieldAddr 37 (.tmp 12) 0, some (95, true)⟩,
    ⟨some 97, .load 31 (.tmp 96), some (95, true)⟩,
    ⟨some 98, .binOp .eql 31 (.tmp 97) (.const (.int .i64 5)) 31, some (95, true)⟩,
    ⟨some 99, .pick (.tmp 95) (.tmp 98) (.const (.bool false)), none⟩,
    ⟨some 100, .move (.tmp 99), none⟩,
    ⟨some 101, .fieldAddr 29 (.tmp 3) 5, some (100, true)⟩,
    ⟨some 102, .load 27 (.tmp 101), some (100, true)⟩,
    ⟨some 103, .call { callee := .builtin .len, args := #[.tmp 102], argTypes := #[27] }, some (100, true)⟩,
    ⟨some 104, .binOp .gtr 3 (.tmp 103) (.const (.int .i64 0)) 3, some (100, true)⟩,
    ⟨some 105, .pick (.tmp 100) (.tmp 104) (.const (.bool false)), none⟩,
    ⟨some 2, .assign (.tmp 105), none⟩]) .ret)))))
theorem rs_rostrumkeep_RankModel : Try.f9.results.toList = [.tmp 2] := rfl
theorem ok_rostrumkeep_RankModel : Try.f9.body.bind (comp Try.f9.ntmps) = some ac_rostrumkeep_RankModel := by kernel_rfl
def ac_rostrumkeep_RankMoves : ACode := .seq (.reg [⟨some 6, .assign (.const (.bool false)), none⟩]) (.seq (.reg [⟨some 18, .move (.tmp 0), none⟩,
    ⟨some 19, .call { callee := .value (.func 21), args := #[.const (.int .i64 5), .tmp 18], argTypes := #[3, 22] }, none⟩,
    ⟨some 7, .alloc 29, none⟩,
    ⟨none, .store 29 (.tmp 7) (.tmp 19), none⟩]) (.seq (.seq (.reg [⟨some 20, .fieldAddr 29 (.tmp 7) 5, none⟩,
    ⟨some 21, .load 27 (.tmp 20), none⟩,
    ⟨some 22, .call { callee := .builtin .len, args := #[.tmp 21], argTypes := #[27] }, none⟩,
    ⟨some 23, .binOp .eql 3 (.tmp 22) (.const (.int .i64 0)) 3, none⟩]) (.cond (.tmp 23) (.seq (.reg [⟨some 6, .assign (.const (.bool false)), none⟩]) .ret) .skip)) (.seq (.regD [([⟨some 24, .fieldAddr 29 (.tmp 7) 5, none⟩,
    ⟨some 25, .load 27 (.tmp 24), none⟩,
    ⟨some 26, .move (.tmp 1), none⟩,
    ⟨some 27, .fieldAddr 29 (.tmp 7) 5, none⟩,
    ⟨some 28, .load 27 (.tmp 27), none⟩,
    ⟨some 29, .call { callee := .builtin .len, args := #[.tmp 28], argTypes := #[27] }, none⟩,
    ⟨some 30, .call { callee := .value (.func 28), args := #[.tmp 26, .tmp 29], argTypes := #[3, 3] }, none⟩,
    ⟨some 31, .indexAddr 27 (.tmp 25) (.tmp 30), none⟩,
    ⟨some 32, .fieldAddr 56 (.tmp 31) 0, none⟩,
    ⟨some 33, .load 9 (.tmp 32), none⟩,
    ⟨some 8, .assign (.tmp 33), none⟩], [(1, 6)])]) (.seq (.reg [⟨some 34, .move (.tmp 2), none⟩,
    ⟨some 35, .call { callee := .value (.func 28), args := #[.tmp 34, .const (.int .i64 1000)], argTypes := #[3, 3] }, none⟩,
    ⟨some 36, .binOp .sub 3 (.tmp 35) (.const (.int .i64 500)) 3, none⟩,
    ⟨some 9, .assign (.tmp 36), none⟩]) (.seq (.reg [⟨some 38, .load 29 (.tmp 7), none⟩,
    ⟨some 39, .move (.tmp 8), none⟩,
    ⟨some 40, .move (.tmp 9), none⟩,
    ⟨some 41, .build 34 #[(0, .const (.int .i64 14)), (1, .const (.string { data := #[107] })), (3, .tmp 39), (4, .tmp 40)], none⟩,
    ⟨some 42, .call { callee := .value (.func 24), args := #[.tmp 38, .tmp 41], argTypes := #[29, 34] }, none⟩,
    ⟨some 37, .move (.tmp 42), none⟩,
    ⟨some 43, .extract (.tmp 37) 0, none⟩,
    ⟨some 44, .extract (.tmp 37) 1, none⟩,
    ⟨some 45, .extract (.tmp 37) 2, none⟩,
    ⟨some 10, .alloc 29, none⟩,
    ⟨some 11, .alloc 37, none⟩,
    ⟨none, .store 29 (.tmp 10) (.tmp 43), none⟩,
    ⟨none, .store 37 (.tmp 11) (.tmp 44), none⟩,
    ⟨some 12, .assign (.tmp 45), none⟩]) (.seq (.reg [⟨some 13, .assign (.const (.int .i64 0)), none⟩]) (.seq (.seq (.reg [⟨some 14, .assign (.const (.int .i64 0)), none⟩]) (.block 0 (.loop (.seq (.seq (.reg [⟨some 46, .move (.tmp 14), none⟩,
    ⟨some 47, .fieldAddr 29 (.tmp 10) 5, none⟩,
    ⟨some 48, .load 27 (.tmp 47), none⟩,
    ⟨some 49, .call { callee := .builtin .len, args := #[.tmp 48], argTypes := #[27] }, none⟩,
    ⟨some 50, .binOp .lss 3 (.tmp 46) (.tmp 49) 3, none⟩]) (.cond (.tmp 50) .skip (.exit 0))) (.seq (.block 1 (.seq (.reg [⟨some 53, .fieldAddr 29 (.tmp 10) 5, none⟩,
    ⟨some 54, .load 27 (.tmp 53), none⟩,
    ⟨some 55, .move (.tmp 14), none⟩,
    ⟨some 56, .indexAddr 27 (.tmp 54) (.tmp 55), none⟩,
    ⟨some 57, .fieldAddr 56 (.tmp 56) 0, none⟩,
    ⟨some 58, .load 9 (.tmp 57), none⟩,
    ⟨some 59, .move (.tmp 8), none⟩,
    ⟨some 60, .binOp .eql 9 (.tmp 58) (.tmp 59) 9, none⟩]) (.cond (.tmp 60) (.seq (.reg [⟨some 61, .move (.tmp 13), none⟩,
    ⟨some 62, .binOp .add 3 (.tmp 61) (.const (.int .i64 1)) 3, none⟩,
    ⟨some 13, .assign (.tmp 62), none⟩]) (.seq (.reg [⟨some 63, .fieldAddr 29 (.tmp 10) 5, none⟩,
    ⟨some 64, .load 27 (.tmp 63), none⟩,
    ⟨some 65, .move (.tmp 14), none⟩,
    ⟨some 66, .indexAddr 27 (.tmp 64) (.tmp 65), none⟩,
    ⟨some 67, .fieldAddr 56 (.tmp 66) 1, none⟩,
    ⟨some 68, .load 3 (.tmp 67), none⟩,
    ⟨some 69, .move (.tmp 9), none⟩,
    ⟨some 70, .binOp .neq 3 (.tmp 68) (.tmp 69) 3, none⟩]) (.cond (.tmp 70) (.seq (.reg [⟨some 6, .assign (.const (.bool false)), none⟩]) .ret) .skip))) .skip))) (.reg [⟨some 51, .move (.tmp 14), none⟩,
    ⟨some 52, .binOp .add 3 (.tmp 51) (.const (.int .i64 1)) 3, none⟩,
    ⟨some 14, .assign (.tmp 52), none⟩])))))) (.seq (.reg [⟨some 72, .load 29 (.tmp 10), none⟩,
    ⟨some 73, .move (.tmp 8), none⟩,
    ⟨some 74, .build 34 #[(0, .const (.int .i64 15)), (1, .const (.string { data := #[107] })), (3, .tmp 73)], none⟩,
    ⟨some 75, .call { callee := .value (.func 24), args := #[.tmp 72, .tmp 74], argTypes := #[29, 34] }, none⟩,
    ⟨some 71, .move (.tmp 75), none⟩,
    ⟨some 76, .extract (.tmp 71) 0, none⟩,
    ⟨some 77, .extract (.tmp 71) 1, none⟩,
    ⟨some 78, .extract (.tmp 71) 2, none⟩,
    ⟨some 15, .alloc 29, none⟩,
    ⟨some 16, .alloc 37, none⟩,
    ⟨none, .store 29 (.tmp 15) (.tmp 76), none⟩,
    ⟨none, .store 37 (.tmp 16) (.tmp 77), none⟩,
    ⟨some 17, .assign (.tmp 78), none⟩]) (.seq (.reg [⟨some 79, .move (.tmp 12), none⟩,
    ⟨some 80, .binOp .eql 31 (.tmp 79) (.const (.int .i64 0)) 31, none⟩,
    ⟨some 81, .move (.tmp 80), none⟩,
    ⟨some 82, .move (.tmp 17), some (81, true)⟩,
    ⟨some 83, .binOp .eql 31 (.tmp 82) (.const (.int .i64 0)) 31, some (81, true)⟩,
    ⟨some 84, .pick (.tmp 81) (.tmp 83) (.const (.bool false)), none⟩,
    ⟨some 85, .move (.tmp 84), none⟩,
    ⟨some 86, .fieldAddr 37 (.tmp 11) 2, some (85, true)⟩,
    ⟨some 87, .load 3 (.tmp 86), some (85, true)⟩,
    ⟨some 88, .binOp .eql 3 (.tmp 87) (.const (.int .i64 0)) 3, some (85, true)⟩,
    ⟨some 89, .pick (.tmp 85) (.tmp 88) (.const (.bool false)), none⟩,
    ⟨some 90, .move (.tmp 89), none⟩,
    ⟨some 91, .fieldAddr 37 (.tmp 11) 0, some (90, true)⟩,
    ⟨some 92, .load 31 (.tmp 91), some (90, true)⟩,
    ⟨some 93, .binOp .eql 31 (.tmp 92) (.const (.int .i64 0)) 31, some (90, true)⟩,
    ⟨some 94, .pick (.tmp 90) (.tmp 93) (.const (.bool false)), none⟩,
    ⟨some 95, .move (.tmp 94), none⟩,
    ⟨some 96, .fieldAddr 37 (.tmp 16) 2, some (95, true)⟩,
    ⟨some 97, .load 3 (.tmp 96), some (95, true)⟩,
    ⟨some 98, .binOp .eql 3 (.tmp 97) (.const (.int .i64 1)) 3, some (95, true)⟩,
    ⟨some 99, .pick (.tmp 95) (.tmp 98) (.const (.bool false)), none⟩,
    ⟨some 100, .move (.tmp 99), none⟩,
    ⟨some 101, .move (.tmp 13), some (100, true)⟩,
    ⟨some 102, .binOp .eql 3 (.tmp 101) (.const (.int .i64 1)) 3, some (100, true)⟩,
    ⟨some 103, .pick (.tmp 100) (.tmp 102) (.const (.bool false)), none⟩,
    ⟨some 104, .move (.tmp 103), none⟩,
    ⟨some 105, .fieldAddr 29 (.tmp 10) 5, some (104, true)⟩,
    ⟨some 106, .load 27 (.tmp 105), some (104, true)⟩,
    ⟨some 107, .call { callee := .builtin .len, args := #[.tmp 106], argTypes := #[27] }, some (104, true)⟩,
    ⟨some 108, .fieldAddr 29 (.tmp 7) 5, some (104, true)⟩,
    ⟨some 109, .load 27 (.tmp 108), some (104, true)⟩,
    ⟨some 110, .call { callee := .builtin .len, args := #[.tmp 109], argTypes := #[27] }, some (104, true)⟩,
    ⟨some 111, .binOp .eql 3 (.tmp 107) (.tmp 110) 3, some (104, true)⟩,
    ⟨some 112, .pick (.tmp 104) (.tmp 111) (.const (.bool false)), none⟩,
    ⟨some 113, .move (.tmp 112), none⟩,
    ⟨some 114, .fieldAddr 29 (.tmp 15) 5, some (113, true)⟩,
    ⟨some 115, .load 27 (.tmp 114), some (113, true)⟩,
    ⟨some 116, .call { callee := .builtin .len, args := #[.tmp 115], argTypes := #[27] }, some (113, true)⟩,
    ⟨some 117, .fieldAddr 29 (.tmp 7) 5, some (113, true)⟩,
    ⟨some 118, .load 27 (.tmp 117), some (113, true)⟩,
    ⟨some 119, .call { callee := .builtin .len, args := #[.tmp 118], argTypes := #[27] }, some (113, true)⟩,
    ⟨some 120, .binOp .sub 3 (.tmp 119) (.const (.int .i64 1)) 3, some (113, true)⟩,
    ⟨some 121, .binOp .eql 3 (.tmp 116) (.tmp 120) 3, some (113, true)⟩,
    ⟨some 122, .pick (.tmp 113) (.tmp 121) (.const (.bool false)), none⟩,
    ⟨some 6, .assign (.tmp 122), none⟩]) .ret)))))))))
theorem rs_rostrumkeep_RankMoves : Try.f10.results.toList = [.tmp 6] := rfl
theorem ok_rostrumkeep_RankMoves : Try.f10.body.bind (comp Try.f10.ntmps) = some ac_rostrumkeep_RankMoves := by kernel_rfl
theorem firstI_some {α : Type} (p : α → Bool) : ∀ (l : List α) (i j : Nat) (x : α), l[j]? = some x → p x = true → (∀ (k : Nat) y, k < j → l[k]? = some y → p y = false) → firstI p i l = ((i + j : Nat) : Int)
  | [], i, j, x, h, _, _ => by simp at h
  | a :: l, i, 0, x, h, hp, _ => by
    simp at h; subst h
    simp [firstI, hp]
  | a :: l, i, j + 1, x, h, hp, hn => by
    have h0 := hn 0 a (by omega) rfl
    have := firstI_some p l (i + 1) j x (by simpa using h) hp (fun k y hk hy => hn (k + 1) y (by omega) (by simpa using hy))
    unfold firstI
    rw [h0]
    simp only [Bool.false_eq_true, if_false]
    rw [this]
    congr 1; omega
theorem rankOf_at {l : List Sc} (h : l.Pairwise (fun a b => a.1 ≠ b.1)) {i : Nat} {s : Sc} (hs : l[i]? = some s) : rankOf l s.1 = i := by
  unfold rankOf
  have := firstI_some (fun x : Sc => decide (x.1 = s.1)) l 0 i s hs (by simp) (fun k y hk hy => by
    obtain ⟨h1, rfl⟩ := List.getElem?_eq_some_iff.1 hs
    obtain ⟨h2, rfl⟩ := List.getElem?_eq_some_iff.1 hy
    simpa using List.pairwise_iff_getElem.1 h k i h2 h1 hk)
  rw [this]; simp
def rankC (m : ByteArray) : Cmd := ⟨16, kS, eS, m, 0⟩
theorem rankC_ok {m : ByteArray} (h : okText m = true) : checkC (rankC m) = 0 := cmd_form (by omega) (by omega) (.inr ⟨by omega, rfl⟩) (.inl ⟨h, by omega⟩) (.inr rfl)
theorem rank_done {v : Val} (ok : OkV v) (h6 : v.kind = 6) {m : ByteArray} (hm : okText m = true) : DoV v (rankC m) = (v, if rankOf v.scores m < 0 then failR 5 else toldR (rankOf v.scores m), 0) := by
  have hd : doV v (rankC m) = (v, if rankOf v.scores m < 0 then failR 5 else toldR (rankOf v.scores m)) := by
    clear ok
    obtain ⟨k, t, n, p, i, s⟩ := v
    simp only at h6
    subst h6
    unfold doV ranksV
    by_cases hh : rankOf s m < 0 <;> simp [rankC, hh]
  have he := (ok.els (by omega)).1
  rw [DoV_go (checkV_iff.2 ok) (rankC_ok hm) (by show (16 : Int) ≤ 18; omega) (by
    rintro (h | h)
    · exact h.2 h6.symm
    · have := h.1; simp [rankC] at this), hd]
  by_cases h : rankOf v.scores m < 0
  · rw [if_pos h]; exact DoEnd_fail (by simp [failR])
  · rw [if_neg h]; exact DoEnd_some rfl (fun h => by have := h.2; simp only at this; omega)
/-- How long members are. -/
def ShortM (v : Val) : Prop := ∀ s ∈ v.scores, s.1.size ≤ 6
theorem cmdText_size (n : Int) (t : ByteArray) : (cmdText n t).size ≤ 6 := by
  unfold cmdText
  split
  · rw [someS_size]; omega
  · have := cutS_size t (n := 6) (by omega); omega
theorem mem_ins8 {α : Type} {l : List α} {i : Nat} {x y : α} (h : y ∈ insAt l i x) : y ∈ l ∨ y = x := by
  unfold insAt at h
  rcases List.mem_append.1 h with h | h
  · exact .inl (List.mem_of_mem_take h)
  · rcases List.mem_cons.1 h with h | h
    · exact .inr h
    · exact .inl (List.mem_of_mem_drop h)
theorem mem_del8 {α : Type} {l : List α} {i : Nat} {y : α} (h : y ∈ delAt l i) : y ∈ l := by
  unfold delAt at h
  rcases List.mem_append.1 h with h | h
  · exact List.mem_of_mem_take h
  · exact List.mem_of_mem_drop h
theorem mem_cut {l : List Sc} {m : ByteArray} {y : Sc} (h : y ∈ rankCut l m) : y ∈ l := by
  unfold rankCut at h
  split at h
  · exact h
  · exact mem_del8 h
theorem short_do {v : Val} {c : Cmd} (h : ShortM v) (hc : c.text.size ≤ 6) : ShortM (doV v c).1 := by
  have h0 : ∀ (k : Int) (t : ByteArray), ShortM ⟨k, t, 0, [], [], []⟩ := fun k t s hs => by simp at hs
  have h1 : ∀ s ∈ (ranksV v.scores c).1, s.1.size ≤ 6 := by
    unfold ranksV
    simp only
    repeat' split
    all_goals first
      | exact h
      | exact fun s hs => h s (mem_cut hs)
      | (intro s hs
         rcases mem_ins8 hs with hs | hs
         · exact h s (mem_cut hs)
         · rw [hs]; exact hc)
  unfold doV
  repeat' split
  all_goals first
    | exact h0 _ _
    | exact h
    | exact h1
theorem short_step {v : Val} {c : Cmd} (h : ShortM v) (hv : Vk v) (hc : checkC c = 0) (hk : c.kind ≤ 18) (ht : c.text.size ≤ 6) : ShortM (stepV v c) := by
  have hz : ShortM zeroV := fun s hs => by simp [zeroV] at hs
  rw [(step_vk hv hc hk).2]
  have he : ∀ v : Val, ShortM v → ShortM (DoEnd v (doV v c)).1 := fun v hv => by
    unfold DoEnd
    repeat' split
    · exact hv
    · exact hz
    · exact short_do hv ht
  rcases hv with ok | e
  · by_cases hm : (kindOfC c.kind ≠ 0 ∧ kindOfC c.kind ≠ v.kind) ∨ (17 ≤ c.kind ∧ v.kind < 3)
    · rw [DoV_type (checkV_iff.2 ok) hc hk hm]; exact h
    · rw [DoV_go (checkV_iff.2 ok) hc hk hm]; exact he v h
  · subst e
    rw [DoV_zero hc hk]
    split
    · unfold DoEnd
      repeat' split
      · exact hz
      · exact hz
      · exact short_do (fun s hs => by simp at hs) ht
    · exact hz
theorem fold_short (kind : Int) : ∀ (l : List Raw) (v : Val), (∀ r ∈ l, r.Ok) → Vk v → ShortM v → ShortM (l.foldl (fun v r => stepV v (maker kind r)) v)
  | [], v, _, _, h => h
  | r :: l, v, hl, hv, h => by
    have hm := makerK_mem kind
    obtain ⟨m1, m2⟩ := maker_ok kind (hl r (List.mem_cons_self ..))
    refine fold_short kind l _ (fun x hx => hl x (List.mem_cons_of_mem _ hx)) (step_vk hv m1 (by omega)).1 (short_step h hv m1 (by omega) ?_)
    rw [maker_eq]
    unfold cmdK
    simp only
    split
    · exact cmdText_size _ _
    · exact Nat.zero_le _
theorem fullV_short (kind : Int) (l : List Raw) (hl : ∀ r ∈ l, r.Ok) : ShortM (fullV kind l) :=
  fold_short kind _ _ (fun r hr => raws_ok hl r (List.mem_of_mem_take hr)) (.inr rfl) (fun s hs => by simp [zeroV] at hs)
def nobody : ByteArray := ⟨#[110, 111, 98, 111, 100, 121, 32, 105, 115, 32, 115, 111, 32, 108, 111, 110, 103]⟩
theorem full5 (l : List Raw) (hl : ∀ r ∈ l, r.Ok) : OkV (fullV 5 l) ∧ (fullV 5 l).kind = 6 ∧ ShortM (fullV 5 l) := by
  obtain ⟨h1, h2⟩ := fullV_ok 5 l hl
  exact ⟨h1, by rw [h2]; rfl, fullV_short 5 l hl⟩
theorem bS_next {a b : Sc} (h : bS a b < 0) : decide (b.2 < a.2) = false ∧ (a.2 == b.2 && !lessB a.1 b.1) = false := by
  unfold bS cmpI at h
  rw [lessB_eq]
  by_cases h1 : a.2 = b.2
  · simp [h1] at h ⊢
    exact h
  · have : ¬ b.2 < a.2 := by
      intro h2
      simp [h1] at h
      repeat' split at h
      all_goals omega
    simp [h1]; omega
theorem rankModel_c (l : List Raw) (hl : ∀ r ∈ l, r.Ok) (hn : (l.length : Int) * 48 ≤ 140737488351232) : PCall Try.prog G 9 [.one (.v (.sl (l.map Raw.row)))] (bV true) := by
  have hf := full_c (G := G) 5 l (by unfold i64; omega) hl hn
  obtain ⟨ok, hk6, hsh⟩ := full5 l hl
  generalize fullV 5 l = v at *
  have hno : rankOf v.scores nobody < 0 := rankOf_neg.2 fun s hs e => by
    have := hsh s hs
    rw [e] at this
    exact absurd this (by decide)
  have d2 := Do_c (G := G) v (rankC nobody) ok.small
  rw [rank_done ok hk6 rfl, if_pos hno] at d2
  have he := (ok.els (by omega)).1
  have hdo : ∀ (i : Nat) (s : Sc), v.scores[i]? = some s → PCall Try.prog G 24 [.agg v.c, .agg (rankC s.1).c] (DoA (v, toldR i, 0)) := fun i s hs => by
    have d := Do_c (G := G) v (rankC s.1) ok.small
    rw [rank_done ok hk6 (ok.okS s (List.mem_of_getElem? hs)).1, rankOf_at ok.once hs, if_neg (by omega)] at d
    exact d
  have hrise := ok.riseS
  have hsm := ok.small
  have c1 := ok.pairs
  have c2 := ok.items
  obtain ⟨vk, vt, vn, vp, vi, vs⟩ := v
  obtain ⟨s1, s2, s3⟩ := hsm
  simp only at hk6 s1 s2 s3 hrise hdo c1 c2
  subst hk6
  have hpos : 0 < vs.length := by
    unfold Val.els at he
    rw [c1.resolve_left (by omega), (c2.resolve_left (by omega)).resolve_left (by omega)] at he
    simp at he; omega
  have q0 : decide (0 < vs.length) = true := by simpa using hpos
  simp only [DoA, Val.c, Rep.c, Cmd.c, toldR, failR, rankC, nobody, List.map_nil] at hf d2 hdo
  refine pcall mixed Try.func9 ok_rostrumkeep_RankModel rs_rostrumkeep_RankModel (by simp [Try.f9]) ?_
  unfold ac_rostrumkeep_RankModel
  repeat' (first | (with_reducible first | refine Cnd.intro (fun h => ?_) (fun h => ?_) | refine And.intro ?_ ?_ | refine Wk.refl ?_ | exact Weak.refl _ _ | refine weak_auto ?_ | apply awp_join) | ((try with_reducible refine CallZ.l ?_); with_reducible refine qcf (by first | exact hf) ?_ ?_) | ((try with_reducible refine CallZ.l ?_); with_reducible refine qcn (by first | exact qkc hf (by with_unfolding_all rfl)) ?_) | ((with_reducible refine qcz (by first | exact qkz hf (by with_unfolding_all rfl)) ?_); intro zh1 zq1; (try simp -dsimp [go_sem] at zq1); obtain ⟨rfl⟩ := zq1) | (with_reducible refine CallZ.z ?_) | simp -dsimp [go_sem])
  refine awp_loop (fun i : Nat => ⟨[(3, .one (.ptr 0 0)), (4, iV ((i : Int) + 1))], G, [some (.box 29 [iC 6, sC vt, iC vn, .v (.sl (pR vp)), .v (.sl (strRows vi)), .v (.sl (sR vs))])]⟩) (fun i => i + 1 ≤ vs.length) (fun i => vs.length - i) 0 (weak_auto ?_) (by omega) ?_
  · simp -dsimp [go_sem]
  · intro i hi
    have e4 : IntKind.i64.wrap ((i : Int) + 1 + 1) = (i : Int) + 1 + 1 := IntWalk.i64_in _ (by omega)
    have e5 : IntKind.i64.wrap (i : Int) = (i : Int) := IntWalk.i64_in _ (by omega)
    by_cases hlt : i + 1 < vs.length
    · have q1 : decide ((i : Int) + 1 < vs.length) = true := by simp; omega
      obtain ⟨⟨x1, x2⟩, hx⟩ : ∃ x, vs[i]? = some x := ⟨_, List.getElem?_eq_getElem (by omega)⟩
      obtain ⟨⟨y1, y2⟩, hy⟩ : ∃ y, vs[i + 1]? = some y := ⟨_, List.getElem?_eq_getElem (by omega)⟩
      obtain ⟨b1, b2⟩ := bS_next (pw_nextS hrise hx hy)
      simp only [lessB] at b1 b2
      have e6 : ((i : Int) + 1).toNat = i + 1 := by omega
      repeat' (first | (with_reducible first | refine Cnd.intro (fun h => ?_) (fun h => ?_) | refine And.intro ?_ ?_ | refine Wk.refl ?_ | exact Weak.refl _ _ | refine weak_auto ?_ | apply awp_join) | (with_reducible refine CallZ.z ?_) | simp -dsimp [go_sem, hx, hy, e4, e5, e6, q1, b1])
      all_goals first
        | omega
        | (refine Again.auto (i + 1) ?_ (by omega) ?_
           · simp -dsimp [go_sem]
           · show vs.length - (i + 1) < vs.length - i; omega)
        | (exfalso; simp_all; done)
    · have q1 : decide ((i : Int) + 1 < vs.length) = false := by simp; omega
      repeat' (first | (with_reducible first | refine Cnd.intro (fun h => ?_) (fun h => ?_) | refine And.intro ?_ ?_ | refine Wk.refl ?_ | exact Weak.refl _ _ | refine weak_auto ?_ | apply awp_join) | (with_reducible refine CallZ.z ?_) | simp -dsimp [go_sem, q1])
      refine awp_loop (fun i : Nat => ⟨[(3, .one (.ptr 0 0)), (7, iV i)], G, [some (.box 29 [iC 6, sC vt, iC vn, .v (.sl (pR vp)), .v (.sl (strRows vi)), .v (.sl (sR vs))])]⟩) (fun i => i ≤ vs.length) (fun i => vs.length - i) 0 (weak_auto ?_) (by omega) ?_
      · simp -dsimp [go_sem]
      · intro i hi
        have e4 : IntKind.i64.wrap ((i : Int) + 1) = (i : Int) + 1 := IntWalk.i64_in _ (by omega)
        by_cases hlt : i < vs.length
        · have q1 : decide (i < vs.length) = true := by simpa using hlt
          obtain ⟨⟨x1, x2⟩, hx⟩ : ∃ x, vs[i]? = some x := ⟨_, List.getElem?_eq_getElem (by omega)⟩
          have hd := hdo i _ hx
          simp only at hd
          repeat' (first | (with_reducible first | refine Cnd.intro (fun h => ?_) (fun h => ?_) | refine And.intro ?_ ?_ | refine Wk.refl ?_ | exact Weak.refl _ _ | refine weak_auto ?_ | apply awp_join) | ((try with_reducible refine CallZ.l ?_); with_reducible refine qcf (by first | exact hd) ?_ ?_) | ((try with_reducible refine CallZ.l ?_); with_reducible refine qcn (by first | exact qkc hd (by with_unfolding_all rfl)) ?_) | ((with_reducible refine qcz (by first | exact qkz hd (by with_unfolding_all rfl)) ?_); intro zh1 zq1; (try simp -dsimp [go_sem] at zq1); obtain ⟨rfl⟩ := zq1) | (with_reducible refine CallZ.z ?_) | simp -dsimp [go_sem, hx, e4, q1])
          all_goals first
            | omega
            | (refine Again.auto (i + 1) ?_ (by omega) ?_
               · simp -dsimp [go_sem]
               · show vs.length - (i + 1) < vs.length - i; omega)
        · have q1 : decide (i < vs.length) = false := by simpa using hlt
          repeat' (first | (with_reducible first | refine Cnd.intro (fun h => ?_) (fun h => ?_) | refine And.intro ?_ ?_ | refine Wk.refl ?_ | exact Weak.refl _ _ | refine weak_auto ?_ | apply awp_join) | ((try with_reducible refine CallZ.l ?_); with_reducible refine qcf (by first | exact d2) ?_ ?_) | ((try with_reducible refine CallZ.l ?_); with_reducible refine qcn (by first | exact qkc d2 (by with_unfolding_all rfl)) ?_) | ((with_reducible refine qcz (by first | exact qkz d2 (by with_unfolding_all rfl)) ?_); intro zh1 zq1; (try simp -dsimp [go_sem] at zq1); obtain ⟨rfl⟩ := zq1) | (with_reducible refine CallZ.z ?_) | simp -dsimp [go_sem, q1, q0])
end Go.Proofs.Ytacdeehkdepiaaa
