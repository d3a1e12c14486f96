/- The function AddSum answers true. -/
import Derived.Test.YtacdeehkdepiaaaL2
import Derived.Test.YtacdeehkdepiaaaWQ
set_option linter.unusedVariables false
set_option linter.unusedSimpArgs false
set_option maxRecDepth 100000
set_option maxHeartbeats 8000000
namespace Go.Proofs.Ytacdeehkdepiaaa
open Go Go.RowKit Go.Proofs.AE
variable {G : Nat → AV}
def ac_rostrumkeep_AddSum : ACode := .seq (.reg [⟨some 4, .assign (.const (.bool false)), none⟩]) (.seq (.reg [⟨some 5, .alloc 29, none⟩]) (.seq (.reg [⟨some 6, .assign (.const (.int .i64 0)), none⟩]) (.seq (.seq (.reg [⟨some 7, .assign (.const (.int .i64 0)), none⟩]) (.block 0 (.loop (.seq (.seq (.reg [⟨some 19, .move (.tmp 7), none⟩,
    ⟨some 20, .move (.tmp 0), none⟩,
    ⟨some 21, .call { callee := .builtin .len, args := #[.tmp 20], argTypes := #[44] }, none⟩,
    ⟨some 22, .binOp .lss 3 (.tmp 19) (.tmp 21) 3, none⟩,
    ⟨some 23, .move (.tmp 22), none⟩,
    ⟨some 24, .move (.tmp 7), some (23, true)⟩,
    ⟨some 25, .binOp .lss 3 (.tmp 24) (.const (.int .i64 20)) 3, some (23, true)⟩,
    ⟨some 26, .pick (.tmp 23) (.tmp 25) (.const (.bool false)), none⟩]) (.cond (.tmp 26) .skip (.exit 0))) (.seq (.block 1 (.seq (.reg [⟨some 29, .move (.tmp 0), none⟩,
    ⟨some 30, .move (.tmp 7), none⟩,
    ⟨some 31, .indexAddr 44 (.tmp 29) (.tmp 30), none⟩,
    ⟨some 32, .load 3 (.tmp 31), none⟩,
    ⟨some 33, .binOp .rem 3 (.tmp 32) (.const (.int .i64 549755813888)) 3, none⟩,
    ⟨some 8, .assign (.tmp 33), none⟩]) (.seq (.reg [⟨some 35, .load 29 (.tmp 5), none⟩,
    ⟨some 36, .move (.tmp 8), none⟩,
    ⟨some 37, .build 34 #[(0, .const (.int .i64 3)), (1, .const (.string { data := #[107] })), (4, .tmp 36)], none⟩,
    ⟨some 38, .call { callee := .value (.func 24), args := #[.tmp 35, .tmp 37], argTypes := #[29, 34] }, none⟩,
    ⟨some 34, .move (.tmp 38), none⟩,
    ⟨some 39, .extract (.tmp 34) 0, none⟩,
    ⟨some 40, .extract (.tmp 34) 1, none⟩,
    ⟨some 41, .extract (.tmp 34) 2, none⟩,
    ⟨some 9, .alloc 29, none⟩,
    ⟨some 10, .alloc 37, none⟩,
    ⟨none, .store 29 (.tmp 9) (.tmp 39), none⟩,
    ⟨none, .store 37 (.tmp 10) (.tmp 40), none⟩,
    ⟨some 11, .assign (.tmp 41), none⟩]) (.seq (.reg [⟨some 42, .move (.tmp 6), none⟩,
    ⟨some 43, .move (.tmp 8), none⟩,
    ⟨some 44, .binOp .add 3 (.tmp 42) (.tmp 43) 3, none⟩,
    ⟨some 45, .binOp .gtr 3 (.tmp 44) (.const (.int .i64 1099511627776)) 3, none⟩,
    ⟨some 46, .move (.tmp 45), none⟩,
    ⟨some 47, .move (.tmp 6), some (46, false)⟩,
    ⟨some 48, .move (.tmp 8), some (46, false)⟩,
    ⟨some 49, .binOp .add 3 (.tmp 47) (.tmp 48) 3, some (46, false)⟩,
    ⟨some 50, .binOp .lss 3 (.tmp 49) (.const (.int .i64 (-1099511627776))) 3, some (46, false)⟩,
    ⟨some 51, .pick (.tmp 46) (.const (.bool true)) (.tmp 50), none⟩,
    ⟨some 12, .assign (.tmp 51), none⟩]) (.seq (.seq (.reg [⟨some 52, .move (.tmp 11), none⟩,
    ⟨some 53, .binOp .neq 31 (.tmp 52) (.const (.int .i64 0)) 31, none⟩,
    ⟨some 54, .move (.tmp 53), none⟩,
    ⟨some 55, .move (.tmp 12), some (54, false)⟩,
    ⟨some 56, .fieldAddr 37 (.tmp 10) 0, some (54, false)⟩,
    ⟨some 57, .load 31 (.tmp 56), some (54, false)⟩,
    ⟨some 58, .binOp .eql 31 (.tmp 57) (.const (.int .i64 7)) 31, some (54, false)⟩,
    ⟨some 59, .binOp .neq 4 (.tmp 55) (.tmp 58) 4, some (54, false)⟩,
    ⟨some 60, .pick (.tmp 54) (.const (.bool true)) (.tmp 59), none⟩]) (.cond (.tmp 60) (.seq (.reg [⟨some 4, .assign (.const (.bool false)), none⟩]) .ret) .skip)) (.seq (.seq (.reg [⟨some 61, .move (.tmp 12), none⟩,
    ⟨some 62, .unOp .not 4 (.tmp 61), none⟩]) (.cond (.tmp 62) (.seq (.reg [⟨some 63, .move (.tmp 6), none⟩,
    ⟨some 64, .move (.tmp 8), none⟩,
    ⟨some 65, .binOp .add 3 (.tmp 63) (.tmp 64) 3, none⟩,
    ⟨some 6, .assign (.tmp 65), none⟩]) (.seq (.reg [⟨some 66, .fieldAddr 37 (.tmp 10) 2, none⟩,
    ⟨some 67, .load 3 (.tmp 66), none⟩,
    ⟨some 68, .move (.tmp 6), none⟩,
    ⟨some 69, .binOp .neq 3 (.tmp 67) (.tmp 68) 3, none⟩]) (.cond (.tmp 69) (.seq (.reg [⟨some 4, .assign (.const (.bool false)), none⟩]) .ret) .skip))) .skip)) (.reg [⟨some 70, .load 29 (.tmp 9), none⟩,
    ⟨none, .store 29 (.tmp 5) (.tmp 70), none⟩]))))))) (.reg [⟨some 27, .move (.tmp 7), none⟩,
    ⟨some 28, .binOp .add 3 (.tmp 27) (.const (.int .i64 1)) 3, none⟩,
    ⟨some 7, .assign (.tmp 28), none⟩])))))) (.seq (.reg [⟨some 72, .build 29 #[], none⟩,
    ⟨some 73, .build 34 #[(0, .const (.int .i64 3)), (1, .const (.string { data := #[107] })), (4, .const (.int .i64 1099511627776))], none⟩,
    ⟨some 74, .call { callee := .value (.func 24), args := #[.tmp 72, .tmp 73], argTypes := #[29, 34] }, none⟩,
    ⟨some 71, .move (.tmp 74), none⟩,
    ⟨some 75, .extract (.tmp 71) 0, none⟩,
    ⟨some 76, .extract (.tmp 71) 1, none⟩,
    ⟨some 77, .extract (.tmp 71) 2, none⟩,
    ⟨some 13, .alloc 29, none⟩,
    ⟨some 14, .alloc 37, none⟩,
    ⟨none, .store 29 (.tmp 13) (.tmp 75), none⟩,
    ⟨none, .store 37 (.tmp 14) (.tmp 76), none⟩,
    ⟨some 15, .assign (.tmp 77), none⟩]) (.seq (.regD [([⟨some 79, .load 29 (.tmp 13), none⟩,
    ⟨some 80, .move (.tmp 1), none⟩,
    ⟨some 81, .call { callee := .value (.func 28), args := #[.tmp 80, .const (.int .i64 99)], argTypes := #[3, 3] }, none⟩,
    ⟨some 82, .binOp .add 3 (.const (.int .i64 1)) (.tmp 81) 3, none⟩,
    ⟨some 83, .build 34 #[(0, .const (.int .i64 3)), (1, .const (.string { data := #[107] })), (4, .tmp 82)], none⟩,
    ⟨some 84, .call { callee := .value (.func 24), args := #[.tmp 79, .tmp 83], argTypes := #[29, 34] }, none⟩,
    ⟨some 78, .move (.tmp 84), none⟩,
    ⟨some 85, .extract (.tmp 78) 0, none⟩,
    ⟨some 86, .extract (.tmp 78) 1, none⟩,
    ⟨some 87, .extract (.tmp 78) 2, none⟩,
    ⟨some 16, .alloc 29, none⟩,
    ⟨some 17, .alloc 37, none⟩,
    ⟨none, .store 29 (.tmp 16) (.tmp 85), none⟩,
    ⟨none, .store 37 (.tmp 17) (.tmp 86), none⟩,
    ⟨some 18, .assign (.tmp 87), none⟩], [(0, 2), (0, 10), (0, 11)]), ([⟨some 79, .load 29 (.tmp 13), none⟩,
    ⟨some 80, .move (.tmp 1), none⟩,
    ⟨some 81, .call { callee := .value (.func 28), args := #[.tmp 80, .const (.int .i64 99)], argTypes := #[3, 3] }, none⟩,
    ⟨some 82, .binOp .add 3 (.const (.int .i64 1)) (.tmp 81) 3, none⟩,
    ⟨some 83, .build 34 #[(0, .const (.int .i64 3)), (1, .const (.string { data := #[107] })), (4, .tmp 82)], none⟩,
    ⟨some 84, .call { callee := .value (.func 24), args := #[.tmp 79, .tmp 83], argTypes := #[29, 34] }, none⟩,
    ⟨some 78, .move (.tmp 84), none⟩,
    ⟨some 85, .extract (.tmp 78) 0, none⟩,
    ⟨some 86, .extract (.tmp 78) 1, none⟩,
    ⟨some 87, .extract (.tmp 78) 2, none⟩,
    ⟨some 17, .alloc 37, none⟩,
    ⟨some 16, .alloc 29, none⟩,
    ⟨none, .store 29 (.tmp 16) (.tmp 85), none⟩,
    ⟨none, .store 37 (.tmp 17) (.tmp 86), none⟩,
    ⟨some 18, .assign (.tmp 87), none⟩], [(0, 2), (0, 10), (0, 11)]), ([⟨some 79, .load 29 (.tmp 13), none⟩,
    ⟨some 80, .move (.tmp 1), none⟩,
    ⟨some 81, .call { callee := .value (.func 28), args := #[.tmp 80, .const (.int .i64 99)], argTypes := #[3, 3] }, none⟩,
    ⟨some 82, .binOp .add 3 (.const (.int .i64 1)) (.tmp 81) 3, none⟩,
    ⟨some 83, .build 34 #[(0, .const (.int .i64 3)), (1, .const (.string { data := #[107] })), (4, .tmp 82)], none⟩,
    ⟨some 16, .alloc 29, none⟩,
    ⟨some 84, .call { callee := .value (.func 24), args := #[.tmp 79, .tmp 83], argTypes := #[29, 34] }, none⟩,
    ⟨some 78, .move (.tmp 84), none⟩,
    ⟨some 85, .extract (.tmp 78) 0, none⟩,
    ⟨some 86, .extract (.tmp 78) 1, none⟩,
    ⟨some 87, .extract (.tmp 78) 2, none⟩,
    ⟨some 17, .alloc 37, none⟩,
    ⟨none, .store 29 (.tmp 16) (.tmp 85), none⟩,
    ⟨none, .store 37 (.tmp 17) (.tmp 86), none⟩,
    ⟨some 18, .assign (.tmp 87), none⟩], [(0, 2), (0, 5), (0, 11)]), ([⟨some 79, .load 29 (.tmp 13), none⟩,
    ⟨some 80, .move (.tmp 1), none⟩,
    ⟨some 81, .call { callee := .value (.func 28), args := #[.tmp 80, .const (.int .i64 99)], argTypes := #[3, 3] }, none⟩,
    ⟨some 82, .binOp .add 3 (.const (.int .i64 1)) (.tmp 81) 3, none⟩,
    ⟨some 83, .build 34 #[(0, .const (.int .i64 3)), (1, .const (.string { data := #[107] })), (4, .tmp 82)], none⟩,
    ⟨some 16, .alloc 29, none⟩,
    ⟨some 17, .alloc 37, none⟩,
    ⟨some 84, .call { callee := .value (.func 24), args := #[.tmp 79, .tmp 83], argTypes := #[29, 34] }, none⟩,
    ⟨some 78, .move (.tmp 84), none⟩,
    ⟨some 85, .extract (.tmp 78) 0, none⟩,
    ⟨some 86, .extract (.tmp 78) 1, none⟩,
    ⟨some 87, .extract (.tmp 78) 2, none⟩,
    ⟨none, .store 29 (.tmp 16) (.tmp 85), none⟩,
    ⟨none, .store 37 (.tmp 17) (.tmp 86), none⟩,
    ⟨some 18, .assign (.tmp 87), none⟩], [(0, 2), (0, 5), (0, 6)]), ([⟨some 79, .load 29 (.tmp 13), none⟩,
    ⟨some 80, .move (.tmp 1), none⟩,
    ⟨some 81, .call { callee := .value (.func 28), args := #[.tmp 80, .const (.int .i64 99)], argTypes := #[3, 3] }, none⟩,
    ⟨some 82, .binOp .add 3 (.const (.int .i64 1)) (.tmp 81) 3, none⟩,
    ⟨some 83, .build 34 #[(0, .const (.int .i64 3)), (1, .const (.string { data := #[107] })), (4, .tmp 82)], none⟩,
    ⟨some 17, .alloc 37, none⟩,
    ⟨some 84, .call { callee := .value (.func 24), args := #[.tmp 79, .tmp 83], argTypes := #[29, 34] }, none⟩,
    ⟨some 78, .move (.tmp 84), none⟩,
    ⟨some 85, .extract (.tmp 78) 0, none⟩,
    ⟨some 86, .extract (.tmp 78) 1, none⟩,
    ⟨some 87, .extract (.tmp 78) 2, none⟩,
    ⟨some 16, .alloc 29, none⟩,
    ⟨none, .store 29 (.tmp 16) (.tmp 85), none⟩,
    ⟨none, .store 37 (.tmp 17) (.tmp 86), none⟩,
    ⟨some 18, .assign (.tmp 87), none⟩], [(0, 2), (0, 5), (0, 11)]), ([⟨some 79, .load 29 (.tmp 13), none⟩,
    ⟨some 80, .move (.tmp 1), none⟩,
    ⟨some 81, .call { callee := .value (.func 28), args := #[.tmp 80, .const (.int .i64 99)], argTypes := #[3, 3] }, none⟩,
    ⟨some 82, .binOp .add 3 (.const (.int .i64 1)) (.tmp 81) 3, none⟩,
    ⟨some 83, .build 34 #[(0, .const (.int .i64 3)), (1, .const (.string { data := #[107] })), (4, .tmp 82)], none⟩,
    ⟨some 17, .alloc 37, none⟩,
    ⟨some 16, .alloc 29, none⟩,
    ⟨some 84, .call { callee := .value (.func 24), args := #[.tmp 79, .tmp 83], argTypes := #[29, 34] }, none⟩,
    ⟨some 78, .move (.tmp 84), none⟩,
    ⟨some 85, .extract (.tmp 78) 0, none⟩,
    ⟨some 86, .extract (.tmp 78) 1, none⟩,
    ⟨some 87, .extract (.tmp 78) 2, none⟩,
    ⟨none, .store 29 (.tmp 16) (.tmp 85), none⟩,
    ⟨none, .store 37 (.tmp 17) (.tmp 86), none⟩,
    ⟨some 18, .assign (.tmp 87), none⟩], [(0, 2), (0, 5), (0, 6)]), ([⟨some 79, .load 29 (.tmp 13), none⟩,
    ⟨some 80, .move (.tmp 1), none⟩,
    ⟨some 16, .alloc 29, none⟩,
    ⟨some 81, .call { callee := .value (.func 28), args := #[.tmp 80, .const (.int .i64 99)], argTypes := #[3, 3] }, none⟩,
    ⟨some 82, .binOp .add 3 (.const (.int .i64 1)) (.tmp 81) 3, none⟩,
    ⟨some 83, .build 34 #[(0, .const (.int .i64 3)), (1, .const (.string { data := #[107] })), (4, .tmp 82)], none⟩,
    ⟨some 84, .call { callee := .value (.func 24), args := #[.tmp 79, .tmp 83], argTypes := #[29, 34] }, none⟩,
    ⟨some 78, .move (.tmp 84), none⟩,
    ⟨some 85, .extract (.tmp 78) 0, none⟩,
    ⟨some 86, .extract (.tmp 78) 1, none⟩,
    ⟨some 87, .extract (.tmp 78) 2, none⟩,
    ⟨some 17, .alloc 37, none⟩,
    ⟨none, .store 29 (.tmp 16) (.tmp 85), none⟩,
    ⟨none, .store 37 (.tmp 17) (.tmp 86), none⟩,
    ⟨some 18, .assign (.tmp 87), none⟩], [(0, 2), (0, 3), (0, 11)]), ([⟨some 79, .load 29 (.tmp 13), none⟩,
    ⟨some 80, .move (.tmp 1), none⟩,
    ⟨some 16, .alloc 29, none⟩,
    ⟨some 81, .call { callee := .value (.func 28), args := #[.tmp 80, .const (.int .i64 99)], argTypes := #[3, 3] }, none⟩,
    ⟨some 82, .binOp .add 3 (.const (.int .i64 1)) (.tmp 81) 3, none⟩,
    ⟨some 83, .build 34 #[(0, .const (.int .i64 3)), (1, .const (.string { data := #[107] })), (4, .tmp 82)], none⟩,
    ⟨some 17, .alloc 37, none⟩,
    ⟨some 84, .call { callee := .value (.func 24), args := #[.tmp 79, .tmp 83], argTypes := #[29, 34] }, none⟩,
    ⟨some 78, .move (.tmp 84), none⟩,
    ⟨some 85, .extract (.tmp 78) 0, none⟩,
    ⟨some 86, .extract (.tmp 78) 1, none⟩,
    ⟨some 87, .extract (.tmp 78) 2, none⟩,
    ⟨none, .store 29 (.tmp 16) (.tmp 85), none⟩,
    ⟨none, .store 37 (.tmp 17) (.tmp 86), none⟩,
    ⟨some 18, .assign (.tmp 87), none⟩], [(0, 2), (0, 3), (0, 6)]), ([⟨some 79, .load 29 (.tmp 13), none⟩,
    ⟨some 80, .move (.tmp 1), none⟩,
    ⟨some 16, .alloc 29, none⟩,
    ⟨some 17, .alloc 37, none⟩,
    ⟨some 81, .call { callee := .value (.func 28), args := #[.tmp 80, .const (.int .i64 99)], argTypes := #[3, 3] }, none⟩,
    ⟨some 82, .binOp .add 3 (.const (.int .i64 1)) (.tmp 81) 3, none⟩,
    ⟨some 83, .build 34 #[(0, .const (.int .i64 3)), (1, .const (.string { data := #[107] })), (4, .tmp 82)], none⟩,
    ⟨some 84, .call { callee := .value (.func 24), args := #[.tmp 79, .tmp 83], argTypes := #[29, 34] }, none⟩,
    ⟨some 78, .move (.tmp 84), none⟩,
    ⟨some 85, .extract (.tmp 78) 0, none⟩,
    ⟨some 86, .extract (.tmp 78) 1, none⟩,
    ⟨some 87, .extract (.tmp 78) 2, none⟩,
    ⟨none, .store 29 (.tmp 16) (.tmp 85), none⟩,
    ⟨none, .store 37 (.tmp 17) (.tmp 86), none⟩,
    ⟨some 18, .assign (.tmp 87), none⟩], [(0, 2), (0, 3), (0, 4)]), ([⟨some 79, .load 29 (.tmp 13), none⟩,
    ⟨some 80, .move (.tmp 1), none⟩,
    ⟨some 17, .alloc 37, none⟩,
    ⟨some 81, .call { callee := .value (.func 28), args := #[.tmp 80, .const (.int .i64 99)], argTypes := #[3, 3] }, none⟩,
    ⟨some 82, .binOp .add 3 (.const (.int .i64 1)) (.tmp 81) 3, none⟩,
    ⟨some 83, .build 34 #[(0, .const (.int .i64 3)), (1, .const (.string { data := #[107] })), (4, .tmp 82)], none⟩,
    ⟨some 84, .call { callee := .value (.func 24), args := #[.tmp 79, .tmp 83], argTypes := #[29, 34] }, none⟩,
    ⟨some 78, .move (.tmp 84), none⟩,
    ⟨some 85, .extract (.tmp 78) 0, none⟩,
    ⟨some 86, .extract (.tmp 78) 1, none⟩,
    ⟨some 87, .extract (.tmp 78) 2, none⟩,
    ⟨some 16, .alloc 29, none⟩,
    ⟨none, .store 29 (.tmp 16) (.tmp 85), none⟩,
    ⟨none, .store 37 (.tmp 17) (.tmp 86), none⟩,
    ⟨some 18, .assign (.tmp 87), none⟩], [(0, 2), (0, 3), (0, 11)]), ([⟨some 79, .load 29 (.tmp 13), none⟩,
    ⟨some 80, .move (.tmp 1), none⟩,
    ⟨some 17, .alloc 37, none⟩,
    ⟨some 81, .call { callee := .value (.func 28), args := #[.tmp 80, .const (.int .i64 99)], argTypes := #[3, 3] }, none⟩,
    ⟨some 82, .binOp .add 3 (.const (.int .i64 1)) (.tmp 81) 3, none⟩,
    ⟨some 83, .build 34 #[(0, .const (.int .i64 3)), (1, .const (.string { data := #[107] })), (4, .tmp 82)], none⟩,
    ⟨some 16, .alloc 29, none⟩,
    ⟨some 84, .call { callee := .value (.func 24), args := #[.tmp 79, .tmp 83], argTypes := #[29, 34] }, none⟩,
    ⟨some 78, .move (.tmp 84), none⟩,
    ⟨some 85, .extract (.tmp 78) 0, none⟩,
    ⟨some 86, .extract (.tmp 78) 1, none⟩,
    ⟨some 87, .extract (.tmp 78) 2, none⟩,
    ⟨none, .store 29 (.tmp 16) (.tmp 85), none⟩,
    ⟨none, .store 37 (.tmp 17) (.tmp 86), none⟩,
    ⟨some 18, .assign (.tmp 87), none⟩], [(0, 2), (0, 3), (0, 6)]), ([⟨some 79, .load 29 (.tmp 13), none⟩,
    ⟨some 80, .move (.tmp 1), none⟩,
    ⟨some 17, .alloc 37, none⟩,
    ⟨some 16, .alloc 29, none⟩,
    ⟨some 81, .call { callee := .value (.func 28), args := #[.tmp 80, .const (.int .i64 99)], argTypes := #[3, 3] }, none⟩,
    ⟨some 82, .binOp .add 3 (.const (.int .i64 1)) (.tmp 81) 3, none⟩,
    ⟨some 83, .build 34 #[(0, .const (.int .i64 3)), (1, .const (.string { data := #[107] })), (4, .tmp 82)], none⟩,
    ⟨some 84, .call { callee := .value (.func 24), args := #[.tmp 79, .tmp 83], argTypes := #[29, 34] }, none⟩,
    ⟨some 78, .move (.tmp 84), none⟩,
    ⟨some 85, .extract (.tmp 78) 0, none⟩,
    ⟨some 86, .extract (.tmp 78) 1, none⟩,
    ⟨some 87, .extract (.tmp 78) 2, none⟩,
    ⟨none, .store 29 (.tmp 16) (.tmp 85), none⟩,
    ⟨none, .store 37 (.tmp 17) (.tmp 86), none⟩,
    ⟨some 18, .assign (.tmp 87), none⟩], [(0, 2), (0, 3), (0, 4)])]) (.seq (.reg [⟨some 88, .move (.tmp 15), none⟩,
    ⟨some 89, .binOp .eql 31 (.tmp 88) (.const (.int .i64 0)) 31, none⟩,
    ⟨some 90, .move (.tmp 89), none⟩,
    ⟨some 91, .move (.tmp 18), some (90, true)⟩,
    ⟨some 92, .binOp .eql 31 (.tmp 91) (.const (.int .i64 0)) 31, some (90, true)⟩,
    ⟨some 93, .pick (.tmp 90) (.tmp 92) (.const (.bool false)), none⟩,
    ⟨some 94, .move (.tmp 93), none⟩,
    ⟨some 95, .fieldAddr 37 (.tmp 17) 0, some (94, true)⟩,
    ⟨some 96, .load 31 (.tmp 95), some (94, true)⟩,
    ⟨some 97, .binOp .eql 31 (.tmp 96) (.const (.int .i64 7)) 31, some (94, true)⟩,
    ⟨some 98, .pick (.tmp 94) (.tmp 97) (.const (.bool false)), none⟩,
    ⟨some 99, .move (.tmp 98), none⟩,
    ⟨some 100, .fieldAddr 29 (.tmp 5) 2, some (99, true)⟩,
    ⟨some 101, .load 3 (.tmp 100), some (99, true)⟩,
    ⟨some 102, .move (.tmp 6), some (99, true)⟩,
    ⟨some 103, .binOp .eql 3 (.tmp 101) (.tmp 102) 3, some (99, true)⟩,
    ⟨some 104, .pick (.tmp 99) (.tmp 103) (.const (.bool false)), none⟩,
    ⟨some 4, .assign (.tmp 104), none⟩]) .ret))))))
theorem rs_rostrumkeep_AddSum : Try.f5.results.toList = [.tmp 4] := rfl
theorem ok_rostrumkeep_AddSum : Try.f5.body.bind (comp Try.f5.ntmps) = some ac_rostrumkeep_AddSum := by kernel_rfl
def stepN (s n : Int) : Int := if okCount (s + n.tmod 549755813888) = true then s + n.tmod 549755813888 else s
def sumL (l : List Int) : Int := l.foldl stepN 0
def vAt (l : List Int) (i : Nat) : Val := if i = 0 then zeroV else cntV (sumL (l.take i))
theorem tmod_rng (n : Int) {m : Int} (hm : 0 < m) : -m < n.tmod m ∧ n.tmod m < m := by
  rcases Int.le_total 0 n with h | h
  · have := Int.tmod_nonneg m h
    have := Int.tmod_lt_of_pos n hm
    omega
  · have h3 := Int.tmod_lt_of_pos (-n) hm
    have := Int.tmod_nonneg m (show 0 ≤ -n by omega)
    rw [Int.neg_tmod] at h3 this
    omega
theorem stepN_ok {s : Int} (h : okCount s = true) (n : Int) : okCount (stepN s n) = true := by
  unfold stepN
  split
  · assumption
  · exact h
theorem fold_okN : ∀ (l : List Int) (s : Int), okCount s = true → okCount (l.foldl stepN s) = true
  | [], _, h => h
  | n :: l, s, h => fold_okN l _ (stepN_ok h n)
theorem sumL_succ {l : List Int} {i : Nat} {n : Int} (h : l[i]? = some n) : sumL (l.take (i + 1)) = stepN (sumL (l.take i)) n := by
  unfold sumL
  rw [List.take_add_one, h, Option.toList_some, List.foldl_append]
  rfl
theorem vAt_small (l : List Int) (i : Nat) : (vAt l i).Small := by
  unfold vAt
  split
  · exact zeroV_small
  · exact cntV_small _
theorem vAt_count (l : List Int) (i : Nat) : (vAt l i).count = sumL (l.take i) := by
  unfold vAt
  split
  · rename_i h; subst h; rfl
  · rfl
theorem addSum_c (l : List Int) (n : Int) (hl : ∀ a ∈ l, i64 a) (hn : i64 n) (hlen : (l.length : Int) ≤ 9223372036854775807) : PCall Try.prog G 5 [.one (.v (.sl (intRows l))), iV n] (bV true) := by
  have hp := pk_range (n := n) (m := 99) (by omega)
  have hpk := picked_c (G := G) n 99 hn (by omega)
  have b1 := Do_c (G := G) zeroV (addC 1099511627776) zeroV_small
  rw [add_zero' rfl, zeroA] at b1
  have b2 := Do_c (G := G) (cntV 1099511627776) (addC (1 + pk n 99)) (cntV_small _)
  rw [add_over rfl ((okCount_iff _).2 (by omega)) (by
    cases h : okCount (1099511627776 + (1 + pk n 99)) with
    | false => rfl
    | true => have := (okCount_iff _).1 h; omega)] at b2
  have w0 : IntKind.i64.wrap (1 + pk n 99) = 1 + pk n 99 := IntWalk.i64_in _ (by omega)
  generalize pk n 99 = p at *
  simp only [DoA, Val.c, Rep.c, Cmd.c, toldR, failR, cntV, addC, List.map_nil] at b1 b2
  refine pcall mixed Try.func5 ok_rostrumkeep_AddSum rs_rostrumkeep_AddSum (by simp [Try.f5]) ?_
  unfold ac_rostrumkeep_AddSum
  repeat' (first | (with_reducible first | refine Cnd.intro (fun h => ?_) (fun h => ?_) | refine And.intro ?_ ?_ | refine Wk.refl ?_ | exact Weak.refl _ _ | refine weak_auto ?_ | apply awp_join) | (with_reducible refine CallZ.z ?_) | simp -dsimp [go_sem])
  refine awp_loop (fun i : Nat => ⟨[(0, .one (.v (.sl (intRows l)))), (1, iV n), (5, .one (.ptr 0 0)), (6, iV (sumL (l.take i))), (7, iV i)], G, [some (.box 29 (vAt l i).c)]⟩) (fun i => i ≤ l.length ∧ i ≤ 20) (fun i => 20 - i) 0 (weak_auto ?_) ⟨Nat.zero_le _, by omega⟩ ?_
  · simp -dsimp [go_sem, vAt, zeroV, Val.c, sumL]
  · rintro i ⟨hi, hi2⟩
    have hok : okCount (sumL (l.take i)) = true := fold_okN _ _ rfl
    have hsm := vAt_small l i
    have hct := vAt_count l i
    have w1 : IntKind.i64.wrap ((i : Int) + 1) = (i : Int) + 1 := IntWalk.i64_in _ (by omega)
    by_cases hlt : i < l.length ∧ i < 20
    · obtain ⟨a, ha⟩ : ∃ a, l[i]? = some a := ⟨_, List.getElem?_eq_getElem hlt.1⟩
      have hr := tmod_rng a (m := 549755813888) (by omega)
      have hsucc := sumL_succ ha
      have hv1 : vAt l (i + 1) = cntV (stepN (sumL (l.take i)) a) := by
        unfold vAt
        rw [if_neg (by omega), hsucc]
      have hdo := Do_c (G := G) (vAt l i) (addC (a.tmod 549755813888)) hsm
      have hko : okCount (a.tmod 549755813888) = true := (okCount_iff _).2 (by omega)
      have q1 : decide (i < l.length) = true := by simp; omega
      have q2 : decide ((i : Int) < 20) = true := by simp; omega
      have hrow : (intRows l)[i]? = some [V.lit (.int .i64 a)] := by unfold intRows; rw [List.getElem?_map, ha]; rfl
      have hs1 := (okCount_iff _).1 hok
      obtain ⟨s, hs⟩ : ∃ s, sumL (l.take i) = s := ⟨_, rfl⟩
      have w2 : IntKind.i64.wrap (s + a.tmod 549755813888) = s + a.tmod 549755813888 := IntWalk.i64_in _ (by omega)
      have w3 : IntKind.i64.wrap (a.tmod 549755813888) = a.tmod 549755813888 := IntWalk.i64_in _ (by omega)
      have hst : stepN s a = if okCount (s + a.tmod 549755813888) = true then s + a.tmod 549755813888 else s := rfl
      rw [hs] at hok hct hv1 hsucc hs1 ⊢
      obtain ⟨k, hkk⟩ : ∃ k, a.tmod 549755813888 = k := ⟨_, rfl⟩
      rw [hkk] at hr hdo hko w2 w3 hst
      cases ho : okCount (s + k) with
      | true =>
        have hb := (okCount_iff _).1 ho
        have hdo' : DoV (vAt l i) (addC k) = (cntV (s + k), toldR (s + k), 0) := by
          unfold vAt
          split
          · rename_i h0
            subst h0
            have : s = 0 := hs.symm
            subst this
            rw [Int.zero_add]
            exact add_zero' hko
          · rw [hs]; exact add_more hok hko ho
        rw [hdo'] at hdo
        rw [ho] at hst
        simp only [if_true] at hst
        rw [hst] at hv1 hsucc
        have q3 : decide (1099511627776 < s + k) = false := by simp; omega
        have q4 : decide (s + k < -1099511627776) = false := by simp; omega
        clear hdo'
        generalize vAt l i = v at *
        simp only [DoA, Val.c, Rep.c, Cmd.c, toldR, cntV, addC, List.map_nil] at hdo ⊢
        repeat' (first | (with_reducible first | refine Cnd.intro (fun h => ?_) (fun h => ?_) | refine And.intro ?_ ?_ | refine Wk.refl ?_ | exact Weak.refl _ _ | refine weak_auto ?_ | apply awp_join) | ((try with_reducible refine CallZ.l ?_); with_reducible refine qcf (by first | exact hdo) ?_ ?_) | ((try with_reducible refine CallZ.l ?_); with_reducible refine qcn (by first | exact qkc hdo (by with_unfolding_all rfl)) ?_) | ((with_reducible refine qcz (by first | exact qkz hdo (by with_unfolding_all rfl)) ?_); intro zh1 zq1; (try simp -dsimp [go_sem] at zq1); obtain ⟨rfl⟩ := zq1) | (with_reducible refine CallZ.z ?_) | simp -dsimp [go_sem, hkk, hrow, w1, w2, w3, q1, q2, q3, q4])
        all_goals first
          | exact hlt.1
          | omega
          | (refine Again.auto (i + 1) ?_ ⟨hlt.1, hlt.2⟩ ?_
             · simp -dsimp [go_sem, hv1, hsucc, cntV, Val.c]
             · show 20 - (i + 1) < 20 - i; omega)
          | (exfalso; simp at *; omega)
      | false =>
        have hb : ¬ (-1099511627776 ≤ s + k ∧ s + k ≤ 1099511627776) := fun h => by rw [(okCount_iff _).2 h] at ho; cases ho
        have hdo' : DoV (vAt l i) (addC k) = (cntV s, failR 7, 0) := by
          unfold vAt
          split
          · rename_i h0
            subst h0
            have : s = 0 := hs.symm
            omega
          · rw [hs]; exact add_over hok hko ho
        rw [hdo'] at hdo
        rw [ho] at hst
        simp only [Bool.false_eq_true, if_false] at hst
        rw [hst] at hv1 hsucc
        clear hdo'
        generalize vAt l i = v at *
        simp only [DoA, Val.c, Rep.c, Cmd.c, failR, cntV, addC, List.map_nil] at hdo ⊢
        repeat' (first | (with_reducible first | refine Cnd.intro (fun h => ?_) (fun h => ?_) | refine And.intro ?_ ?_ | refine Wk.refl ?_ | exact Weak.refl _ _ | refine weak_auto ?_ | apply awp_join) | ((try with_reducible refine CallZ.l ?_); with_reducible refine qcf (by first | exact hdo) ?_ ?_) | ((try with_reducible refine CallZ.l ?_); with_reducible refine qcn (by first | exact qkc hdo (by with_unfolding_all rfl)) ?_) | ((with_reducible refine qcz (by first | exact qkz hdo (by with_unfolding_all rfl)) ?_); intro zh1 zq1; (try simp -dsimp [go_sem] at zq1); obtain ⟨rfl⟩ := zq1) | (with_reducible refine CallZ.z ?_) | simp -dsimp [go_sem, hkk, hrow, w1, w2, w3, q1, q2])
        all_goals first
          | exact hlt.1
          | omega
          | (refine Again.auto (i + 1) ?_ ⟨hlt.1, hlt.2⟩ ?_
             · simp -dsimp [go_sem, hv1, hsucc, cntV, Val.c]
             · show 20 - (i + 1) < 20 - i; omega)
          | (exfalso; simp at *; omega)
    · generalize vAt l i = v at *
      generalize sumL (l.take i) = s at *
      subst hct
      simp only [Val.c]
      by_cases h1 : i < l.length
      · have q1 : decide (i < l.length) = true := by simpa using h1
        have q2 : decide ((i : Int) < 20) = false := by simp; omega
        repeat' (first | (with_reducible first | refine Cnd.intro (fun h => ?_) (fun h => ?_) | refine And.intro ?_ ?_ | refine Wk.refl ?_ | exact Weak.refl _ _ | refine weak_auto ?_ | apply awp_join) | ((try with_reducible refine CallZ.l ?_); with_reducible refine qcf (by first | exact b1 | exact b2 | exact hpk) ?_ ?_) | ((try with_reducible refine CallZ.l ?_); with_reducible refine qcn (by first | exact qkc b1 (by with_unfolding_all rfl) | exact qkc b2 (by with_unfolding_all rfl) | exact qkc hpk (by with_unfolding_all rfl)) ?_) | ((with_reducible refine qcz (by first | exact qkz b1 (by with_unfolding_all rfl) | exact qkz b2 (by with_unfolding_all rfl) | exact qkz hpk (by with_unfolding_all rfl)) ?_); intro zh1 zq1; (try simp -dsimp [go_sem] at zq1); obtain ⟨rfl⟩ := zq1) | (with_reducible refine CallZ.z ?_) | simp -dsimp [go_sem, w0, q1, q2])
      · have q1 : decide (i < l.length) = false := by simpa using h1
        repeat' (first | (with_reducible first | refine Cnd.intro (fun h => ?_) (fun h => ?_) | refine And.intro ?_ ?_ | refine Wk.refl ?_ | exact Weak.refl _ _ | refine weak_auto ?_ | apply awp_join) | ((try with_reducible refine CallZ.l ?_); with_reducible refine qcf (by first | exact b1 | exact b2 | exact hpk) ?_ ?_) | ((try with_reducible refine CallZ.l ?_); with_reducible refine qcn (by first | exact qkc b1 (by with_unfolding_all rfl) | exact qkc b2 (by with_unfolding_all rfl) | exact qkc hpk (by with_unfolding_all rfl)) ?_) | ((with_reducible refine qcz (by first | exact qkz b1 (by with_unfolding_all rfl) | exact qkz b2 (by with_unfolding_all rfl) | exact qkz hpk (by with_unfolding_all rfl)) ?_); intro zh1 zq1; (try simp -dsimp [go_sem] at zq1); obtain ⟨rfl⟩ := zq1) | (with_reducible refine CallZ.z ?_) | simp -dsimp [go_sem, w0, q1])
end Go.Proofs.Ytacdeehkdepiaaa
