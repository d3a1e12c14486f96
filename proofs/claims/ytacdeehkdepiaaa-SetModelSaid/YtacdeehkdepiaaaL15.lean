/- The function SetModel answers true. -/
import Derived.Test.YtacdeehkdepiaaaL14
import Derived.Test.YtacdeehkdepiaaaL4
set_option linter.unusedVariables false
set_option linter.unusedSimpArgs false
set_option maxRecDepth 100000
set_option maxHeartbeats 8000000
namespace Go.Proofs.Ytacdeehkdepiaaa
open Go Go.RowKit Go.Proofs.AE
variable {G : Nat → AV}
def ac_rostrumkeep_SetModel : ACode := .seq (.reg [⟨some 2, .assign (.const (.bool false)), none⟩]) (.seq (.reg [⟨some 3, .alloc 29, none⟩]) (.seq (.reg [⟨some 16, .makeMap 54 none, none⟩,
    ⟨some 4, .assign (.tmp 16), none⟩]) (.seq (.seq (.reg [⟨some 5, .assign (.const (.int .i64 0)), none⟩]) (.block 0 (.loop (.seq (.seq (.reg [⟨some 17, .move (.tmp 5), none⟩,
    ⟨some 18, .move (.tmp 0), none⟩,
    ⟨some 19, .call { callee := .builtin .len, args := #[.tmp 18], argTypes := #[22] }, none⟩,
    ⟨some 20, .binOp .lss 3 (.tmp 17) (.tmp 19) 3, none⟩,
    ⟨some 21, .move (.tmp 20), none⟩,
    ⟨some 22, .move (.tmp 5), some (21, true)⟩,
    ⟨some 23, .binOp .lss 3 (.tmp 22) (.const (.int .i64 30)) 3, some (21, true)⟩,
    ⟨some 24, .pick (.tmp 21) (.tmp 23) (.const (.bool false)), none⟩]) (.cond (.tmp 24) .skip (.exit 0))) (.seq (.block 1 (.seq (.reg [⟨some 27, .buildSlice 44 4 #[(0, .const (.int .i64 11)), (1, .const (.int .i64 11)), (2, .const (.int .i64 12)), (3, .const (.int .i64 13))], none⟩,
    ⟨some 28, .move (.tmp 0), none⟩,
    ⟨some 29, .move (.tmp 5), none⟩,
    ⟨some 30, .indexAddr 22 (.tmp 28) (.tmp 29), none⟩,
    ⟨some 31, .fieldAddr 24 (.tmp 30) 0, none⟩,
    ⟨some 32, .load 3 (.tmp 31), none⟩,
    ⟨some 33, .call { callee := .value (.func 28), args := #[.tmp 32, .const (.int .i64 4)], argTypes := #[3, 3] }, none⟩,
    ⟨some 34, .indexAddr 44 (.tmp 27) (.tmp 33), none⟩,
    ⟨some 35, .load 3 (.tmp 34), none⟩,
    ⟨some 6, .assign (.tmp 35), none⟩]) (.seq (.reg [⟨some 36, .move (.tmp 6), none⟩,
    ⟨some 37, .binOp .sub 3 (.tmp 36) (.const (.int .i64 1)) 3, none⟩,
    ⟨some 38, .move (.tmp 0), none⟩,
    ⟨some 39, .move (.tmp 5), none⟩,
    ⟨some 40, .indexAddr 22 (.tmp 38) (.tmp 39), none⟩,
    ⟨some 41, .fieldAddr 24 (.tmp 40) 2, none⟩,
    ⟨some 42, .load 3 (.tmp 41), none⟩,
    ⟨some 43, .binOp .mul 3 (.const (.int .i64 3)) (.tmp 42) 3, none⟩,
    ⟨some 44, .build 24 #[(0, .tmp 37), (3, .tmp 43)], none⟩,
    ⟨some 45, .call { callee := .value (.func 23), args := #[.tmp 44], argTypes := #[24] }, none⟩,
    ⟨some 7, .alloc 34, none⟩,
    ⟨none, .store 34 (.tmp 7) (.tmp 45), none⟩]) (.seq (.reg [⟨some 46, .move (.tmp 4), none⟩,
    ⟨some 47, .fieldAddr 34 (.tmp 7) 3, none⟩,
    ⟨some 48, .load 9 (.tmp 47), none⟩,
    ⟨some 49, .lookup 54 (.tmp 46) (.tmp 48) false, none⟩,
    ⟨some 8, .assign (.tmp 49), none⟩]) (.seq (.reg [⟨some 51, .load 29 (.tmp 3), none⟩,
    ⟨some 52, .load 34 (.tmp 7), none⟩,
    ⟨some 53, .call { callee := .value (.func 24), args := #[.tmp 51, .tmp 52], argTypes := #[29, 34] }, none⟩,
    ⟨some 50, .move (.tmp 53), none⟩,
    ⟨some 54, .extract (.tmp 50) 0, none⟩,
    ⟨some 55, .extract (.tmp 50) 1, none⟩,
    ⟨some 56, .extract (.tmp 50) 2, none⟩,
    ⟨some 9, .alloc 29, none⟩,
    ⟨some 10, .alloc 37, none⟩,
    ⟨none, .store 29 (.tmp 9) (.tmp 54), none⟩,
    ⟨none, .store 37 (.tmp 10) (.tmp 55), none⟩,
    ⟨some 11, .assign (.tmp 56), none⟩]) (.seq (.seq (.reg [⟨some 57, .move (.tmp 11), none⟩,
    ⟨some 58, .binOp .neq 31 (.tmp 57) (.const (.int .i64 0)) 31, none⟩]) (.cond (.tmp 58) (.seq (.reg [⟨some 2, .assign (.const (.bool false)), none⟩]) .ret) .skip)) (.seq (.block 2 (.seq (.reg [⟨some 75, .move (.tmp 6), none⟩,
    ⟨some 76, .binOp .eql 3 (.tmp 75) (.const (.int .i64 11)) 3, none⟩,
    ⟨some 74, .assign (.tmp 76), none⟩]) (.cond (.tmp 74) (.seq (.seq (.reg [⟨some 77, .fieldAddr 37 (.tmp 10) 0, none⟩,
    ⟨some 78, .load 31 (.tmp 77), none⟩,
    ⟨some 79, .binOp .neq 31 (.tmp 78) (.const (.int .i64 0)) 31, none⟩,
    ⟨some 80, .move (.tmp 79), none⟩,
    ⟨some 81, .fieldAddr 37 (.tmp 10) 2, some (80, false)⟩,
    ⟨some 82, .load 3 (.tmp 81), some (80, false)⟩,
    ⟨some 83, .binOp .eql 3 (.tmp 82) (.const (.int .i64 1)) 3, some (80, false)⟩,
    ⟨some 84, .move (.tmp 8), some (80, false)⟩,
    ⟨some 85, .binOp .eql 4 (.tmp 83) (.tmp 84) 4, some (80, false)⟩,
    ⟨some 86, .pick (.tmp 80) (.const (.bool true)) (.tmp 85), none⟩]) (.cond (.tmp 86) (.seq (.reg [⟨some 2, .assign (.const (.bool false)), none⟩]) .ret) .skip)) (.reg [⟨some 87, .move (.tmp 4), none⟩,
    ⟨some 88, .fieldAddr 34 (.tmp 7) 3, none⟩,
    ⟨some 89, .load 9 (.tmp 88), none⟩,
    ⟨none, .mapUpdate 54 (.tmp 87) (.tmp 89) (.const (.bool true)), none⟩])) (.seq (.reg [⟨some 91, .move (.tmp 4), none⟩,
    ⟨some 92, .call { callee := .builtin .len, args := #[.tmp 91], argTypes := #[54] }, none⟩,
    ⟨some 93, .binOp .eql 3 (.tmp 92) (.const (.int .i64 0)) 3, none⟩,
    ⟨some 90, .assign (.tmp 93), none⟩]) (.cond (.tmp 90) (.seq (.reg [⟨some 94, .fieldAddr 37 (.tmp 10) 0, none⟩,
    ⟨some 95, .load 31 (.tmp 94), none⟩,
    ⟨some 96, .binOp .neq 31 (.tmp 95) (.const (.int .i64 5)) 31, none⟩]) (.cond (.tmp 96) (.seq (.reg [⟨some 2, .assign (.const (.bool false)), none⟩]) .ret) .skip)) (.seq (.seq (.reg [⟨some 59, .fieldAddr 37 (.tmp 10) 0, none⟩,
    ⟨some 60, .load 31 (.tmp 59), none⟩,
    ⟨some 61, .binOp .neq 31 (.tmp 60) (.const (.int .i64 0)) 31, none⟩,
    ⟨some 62, .move (.tmp 61), none⟩,
    ⟨some 63, .fieldAddr 37 (.tmp 10) 2, some (62, false)⟩,
    ⟨some 64, .load 3 (.tmp 63), some (62, false)⟩,
    ⟨some 65, .binOp .eql 3 (.tmp 64) (.const (.int .i64 1)) 3, some (62, false)⟩,
    ⟨some 66, .move (.tmp 8), some (62, false)⟩,
    ⟨some 67, .binOp .neq 4 (.tmp 65) (.tmp 66) 4, some (62, false)⟩,
    ⟨some 68, .pick (.tmp 62) (.const (.bool true)) (.tmp 67), none⟩]) (.cond (.tmp 68) (.seq (.reg [⟨some 2, .assign (.const (.bool false)), none⟩]) .ret) .skip)) (.seq (.reg [⟨some 69, .move (.tmp 6), none⟩,
    ⟨some 70, .binOp .eql 3 (.tmp 69) (.const (.int .i64 12)) 3, none⟩]) (.cond (.tmp 70) (.reg [⟨some 71, .move (.tmp 4), none⟩,
    ⟨some 72, .fieldAddr 34 (.tmp 7) 3, none⟩,
    ⟨some 73, .load 9 (.tmp 72), none⟩,
    ⟨none, .call { callee := .builtin .delete, args := #[.tmp 71, .tmp 73], argTypes := #[54, 9] }, none⟩]) .skip)))))))) (.reg [⟨some 97, .load 29 (.tmp 9), none⟩,
    ⟨none, .store 29 (.tmp 3) (.tmp 97), none⟩])))))))) (.reg [⟨some 25, .move (.tmp 5), none⟩,
    ⟨some 26, .binOp .add 3 (.tmp 25) (.const (.int .i64 1)) 3, none⟩,
    ⟨some 5, .assign (.tmp 26), none⟩])))))) (.seq (.seq (.reg [⟨some 12, .assign (.const (.int .i64 0)), none⟩]) (.block 3 (.loop (.seq (.seq (.reg [⟨some 98, .move (.tmp 12), none⟩,
    ⟨some 99, .fieldAddr 29 (.tmp 3) 4, none⟩,
    ⟨some 100, .load 26 (.tmp 99), none⟩,
    ⟨some 101, .call { callee := .builtin .len, args := #[.tmp 100], argTypes := #[26] }, none⟩,
    ⟨some 102, .binOp .lss 3 (.tmp 98) (.tmp 101) 3, none⟩]) (.cond (.tmp 102) .skip (.exit 3))) (.seq (.block 4 (.seq (.regD [([⟨some 105, .move (.tmp 4), none⟩,
    ⟨some 106, .fieldAddr 29 (.tmp 3) 4, none⟩,
    ⟨some 107, .load 26 (.tmp 106), none⟩,
    ⟨some 108, .move (.tmp 12), none⟩,
    ⟨some 109, .indexAddr 26 (.tmp 107) (.tmp 108), none⟩,
    ⟨some 110, .load 9 (.tmp 109), none⟩,
    ⟨some 111, .lookup 54 (.tmp 105) (.tmp 110) false, none⟩,
    ⟨some 112, .unOp .not 4 (.tmp 111), none⟩,
    ⟨some 113, .move (.tmp 112), none⟩,
    ⟨some 114, .move (.tmp 12), some (113, false)⟩,
    ⟨some 115, .binOp .gtr 3 (.tmp 114) (.const (.int .i64 0)) 3, some (113, false)⟩,
    ⟨some 116, .move (.tmp 115), some (113, false)⟩,
    ⟨some 117, .fieldAddr 29 (.tmp 3) 4, some (116, true)⟩,
    ⟨some 118, .load 26 (.tmp 117), some (116, true)⟩,
    ⟨some 119, .move (.tmp 12), some (116, true)⟩,
    ⟨some 120, .binOp .sub 3 (.tmp 119) (.const (.int .i64 1)) 3, some (116, true)⟩,
    ⟨some 121, .indexAddr 26 (.tmp 118) (.tmp 120), some (116, true)⟩,
    ⟨some 122, .load 9 (.tmp 121), some (116, true)⟩,
    ⟨some 123, .fieldAddr 29 (.tmp 3) 4, some (116, true)⟩,
    ⟨some 124, .load 26 (.tmp 123), some (116, true)⟩,
    ⟨some 125, .move (.tmp 12), some (116, true)⟩,
    ⟨some 126, .indexAddr 26 (.tmp 124) (.tmp 125), some (116, true)⟩,
    ⟨some 127, .load 9 (.tmp 126), some (116, true)⟩,
    ⟨some 128, .binOp .geq 9 (.tmp 122) (.tmp 127) 9, some (116, true)⟩,
    ⟨some 129, .pick (.tmp 116) (.tmp 128) (.const (.bool false)), some (113, false)⟩,
    ⟨some 130, .pick (.tmp 113) (.const (.bool true)) (.tmp 129), none⟩], [])]) (.cond (.tmp 130) (.seq (.reg [⟨some 2, .assign (.const (.bool false)), none⟩]) .ret) .skip))) (.reg [⟨some 103, .move (.tmp 12), none⟩,
    ⟨some 104, .binOp .add 3 (.tmp 103) (.const (.int .i64 1)) 3, none⟩,
    ⟨some 12, .assign (.tmp 104), none⟩])))))) (.seq (.reg [⟨some 132, .build 29 #[], none⟩,
    ⟨some 133, .build 34 #[(0, .const (.int .i64 11)), (1, .const (.string { data := #[107] }))], none⟩,
    ⟨some 134, .call { callee := .value (.func 24), args := #[.tmp 132, .tmp 133], argTypes := #[29, 34] }, none⟩,
    ⟨some 131, .move (.tmp 134), none⟩,
    ⟨some 135, .extract (.tmp 131) 0, none⟩,
    ⟨some 136, .extract (.tmp 131) 1, none⟩,
    ⟨some 137, .extract (.tmp 131) 2, none⟩,
    ⟨some 13, .alloc 29, none⟩,
    ⟨some 14, .alloc 37, none⟩,
    ⟨none, .store 29 (.tmp 13) (.tmp 135), none⟩,
    ⟨none, .store 37 (.tmp 14) (.tmp 136), none⟩,
    ⟨some 15, .assign (.tmp 137), none⟩]) (.seq (.reg [⟨some 138, .move (.tmp 15), none⟩,
    ⟨some 139, .binOp .eql 31 (.tmp 138) (.const (.int .i64 0)) 31, none⟩,
    ⟨some 140, .move (.tmp 139), none⟩,
    ⟨some 141, .fieldAddr 37 (.tmp 14) 2, some (140, true)⟩,
    ⟨some 142, .load 3 (.tmp 141), some (140, true)⟩,
    ⟨some 143, .binOp .eql 3 (.tmp 142) (.const (.int .i64 1)) 3, some (140, true)⟩,
    ⟨some 144, .pick (.tmp 140) (.tmp 143) (.const (.bool false)), none⟩,
    ⟨some 145, .move (.tmp 144), none⟩,
    ⟨some 146, .fieldAddr 29 (.tmp 13) 4, some (145, true)⟩,
    ⟨some 147, .load 26 (.tmp 146), some (145, true)⟩,
    ⟨some 148, .call { callee := .builtin .len, args := #[.tmp 147], argTypes := #[26] }, some (145, true)⟩,
    ⟨some 149, .binOp .eql 3 (.tmp 148) (.const (.int .i64 1)) 3, some (145, true)⟩,
    ⟨some 150, .pick (.tmp 145) (.tmp 149) (.const (.bool false)), none⟩,
    ⟨some 151, .move (.tmp 150), none⟩,
    ⟨some 152, .fieldAddr 29 (.tmp 3) 4, some (151, true)⟩,
    ⟨some 153, .load 26 (.tmp 152), some (151, true)⟩,
    ⟨some 154, .call { callee := .builtin .len, args := #[.tmp 153], argTypes := #[26] }, some (151, true)⟩,
    ⟨some 155, .move (.tmp 4), some (151, true)⟩,
    ⟨some 156, .call { callee := .builtin .len, args := #[.tmp 155], argTypes := #[54] }, some (151, true)⟩,
    ⟨some 157, .binOp .eql 3 (.tmp 154) (.tmp 156) 3, some (151, true)⟩,
    ⟨some 158, .pick (.tmp 151) (.tmp 157) (.const (.bool false)), none⟩,
    ⟨some 2, .assign (.tmp 158), none⟩]) .ret))))))
theorem rs_rostrumkeep_SetModel : Try.f8.results.toList = [.tmp 2] := rfl
theorem ok_rostrumkeep_SetModel : Try.f8.body.bind (comp Try.f8.ntmps) = some ac_rostrumkeep_SetModel := by kernel_rfl
def lb_rostrumkeep_SetModel_0 : ACode := .seq (.seq (.reg [⟨some 17, .move (.tmp 5), none⟩,
    ⟨some 18, .move (.tmp 0), none⟩,
    ⟨some 19, .call { callee := .builtin .len, args := #[.tmp 18], argTypes := #[22] }, none⟩,
    ⟨some 20, .binOp .lss 3 (.tmp 17) (.tmp 19) 3, none⟩,
    ⟨some 21, .move (.tmp 20), none⟩,
    ⟨some 22, .move (.tmp 5), some (21, true)⟩,
    ⟨some 23, .binOp .lss 3 (.tmp 22) (.const (.int .i64 30)) 3, some (21, true)⟩,
    ⟨some 24, .pick (.tmp 21) (.tmp 23) (.const (.bool false)), none⟩]) (.cond (.tmp 24) .skip (.exit 0))) (.seq (.block 1 (.seq (.reg [⟨some 27, .buildSlice 44 4 #[(0, .const (.int .i64 11)), (1, .const (.int .i64 11)), (2, .const (.int .i64 12)), (3, .const (.int .i64 13))], none⟩,
    ⟨some 28, .move (.tmp 0), none⟩,
    ⟨some 29, .move (.tmp 5), none⟩,
    ⟨some 30, .indexAddr 22 (.tmp 28) (.tmp 29), none⟩,
    ⟨some 31, .fieldAddr 24 (.tmp 30) 0, none⟩,
    ⟨some 32, .load 3 (.tmp 31), none⟩,
    ⟨some 33, .call { callee := .value (.func 28), args := #[.tmp 32, .const (.int .i64 4)], argTypes := #[3, 3] }, none⟩,
    ⟨some 34, .indexAddr 44 (.tmp 27) (.tmp 33), none⟩,
    ⟨some 35, .load 3 (.tmp 34), none⟩,
    ⟨some 6, .assign (.tmp 35), none⟩]) (.seq (.reg [⟨some 36, .move (.tmp 6), none⟩,
    ⟨some 37, .binOp .sub 3 (.tmp 36) (.const (.int .i64 1)) 3, none⟩,
    ⟨some 38, .move (.tmp 0), none⟩,
    ⟨some 39, .move (.tmp 5), none⟩,
    ⟨some 40, .indexAddr 22 (.tmp 38) (.tmp 39), none⟩,
    ⟨some 41, .fieldAddr 24 (.tmp 40) 2, none⟩,
    ⟨some 42, .load 3 (.tmp 41), none⟩,
    ⟨some 43, .binOp .mul 3 (.const (.int .i64 3)) (.tmp 42) 3, none⟩,
    ⟨some 44, .build 24 #[(0, .tmp 37), (3, .tmp 43)], none⟩,
    ⟨some 45, .call { callee := .value (.func 23), args := #[.tmp 44], argTypes := #[24] }, none⟩,
    ⟨some 7, .alloc 34, none⟩,
    ⟨none, .store 34 (.tmp 7) (.tmp 45), none⟩]) (.seq (.reg [⟨some 46, .move (.tmp 4), none⟩,
    ⟨some 47, .fieldAddr 34 (.tmp 7) 3, none⟩,
    ⟨some 48, .load 9 (.tmp 47), none⟩,
    ⟨some 49, .lookup 54 (.tmp 46) (.tmp 48) false, none⟩,
    ⟨some 8, .assign (.tmp 49), none⟩]) (.seq (.reg [⟨some 51, .load 29 (.tmp 3), none⟩,
    ⟨some 52, .load 34 (.tmp 7), none⟩,
    ⟨some 53, .call { callee := .value (.func 24), args := #[.tmp 51, .tmp 52], argTypes := #[29, 34] }, none⟩,
    ⟨some 50, .move (.tmp 53), none⟩,
    ⟨some 54, .extract (.tmp 50) 0, none⟩,
    ⟨some 55, .extract (.tmp 50) 1, none⟩,
    ⟨some 56, .extract (.tmp 50) 2, none⟩,
    ⟨some 9, .alloc 29, none⟩,
    ⟨some 10, .alloc 37, none⟩,
    ⟨none, .store 29 (.tmp 9) (.tmp 54), none⟩,
    ⟨none, .store 37 (.tmp 10) (.tmp 55), none⟩,
    ⟨some 11, .assign (.tmp 56), none⟩]) (.seq (.seq (.reg [⟨some 57, .move (.tmp 11), none⟩,
    ⟨some 58, .binOp .neq 31 (.tmp 57) (.const (.int .i64 0)) 31, none⟩]) (.cond (.tmp 58) (.seq (.reg [⟨some 2, .assign (.const (.bool false)), none⟩]) .ret) .skip)) (.seq (.block 2 (.seq (.reg [⟨some 75, .move (.tmp 6), none⟩,
    ⟨some 76, .binOp .eql 3 (.tmp 75) (.const (.int .i64 11)) 3, none⟩,
    ⟨some 74, .assign (.tmp 76), none⟩]) (.cond (.tmp 74) (.seq (.seq (.reg [⟨some 77, .fieldAddr 37 (.tmp 10) 0, none⟩,
    ⟨some 78, .load 31 (.tmp 77), none⟩,
    ⟨some 79, .binOp .neq 31 (.tmp 78) (.const (.int .i64 0)) 31, none⟩,
    ⟨some 80, .move (.tmp 79), none⟩,
    ⟨some 81, .fieldAddr 37 (.tmp 10) 2, some (80, false)⟩,
    ⟨some 82, .load 3 (.tmp 81), some (80, false)⟩,
    ⟨some 83, .binOp .eql 3 (.tmp 82) (.const (.int .i64 1)) 3, some (80, false)⟩,
    ⟨some 84, .move (.tmp 8), some (80, false)⟩,
    ⟨some 85, .binOp .eql 4 (.tmp 83) (.tmp 84) 4, some (80, false)⟩,
    ⟨some 86, .pick (.tmp 80) (.const (.bool true)) (.tmp 85), none⟩]) (.cond (.tmp 86) (.seq (.reg [⟨some 2, .assign (.const (.bool false)), none⟩]) .ret) .skip)) (.reg [⟨some 87, .move (.tmp 4), none⟩,
    ⟨some 88, .fieldAddr 34 (.tmp 7) 3, none⟩,
    ⟨some 89, .load 9 (.tmp 88), none⟩,
    ⟨none, .mapUpdate 54 (.tmp 87) (.tmp 89) (.const (.bool true)), none⟩])) (.seq (.reg [⟨some 91, .move (.tmp 4), none⟩,
    ⟨some 92, .call { callee := .builtin .len, args := #[.tmp 91], argTypes := #[54] }, none⟩,
    ⟨some 93, .binOp .eql 3 (.tmp 92) (.const (.int .i64 0)) 3, none⟩,
    ⟨some 90, .assign (.tmp 93), none⟩]) (.cond (.tmp 90) (.seq (.reg [⟨some 94, .fieldAddr 37 (.tmp 10) 0, none⟩,
    ⟨some 95, .load 31 (.tmp 94), none⟩,
    ⟨some 96, .binOp .neq 31 (.tmp 95) (.const (.int .i64 5)) 31, none⟩]) (.cond (.tmp 96) (.seq (.reg [⟨some 2, .assign (.const (.bool false)), none⟩]) .ret) .skip)) (.seq (.seq (.reg [⟨some 59, .fieldAddr 37 (.tmp 10) 0, none⟩,
    ⟨some 60, .load 31 (.tmp 59), none⟩,
    ⟨some 61, .binOp .neq 31 (.tmp 60) (.const (.int .i64 0)) 31, none⟩,
    ⟨some 62, .move (.tmp 61), none⟩,
    ⟨some 63, .fieldAddr 37 (.tmp 10) 2, some (62, false)⟩,
    ⟨some 64, .load 3 (.tmp 63), some (62, false)⟩,
    ⟨some 65, .binOp .eql 3 (.tmp 64) (.const (.int .i64 1)) 3, some (62, false)⟩,
    ⟨some 66, .move (.tmp 8), some (62, false)⟩,
    ⟨some 67, .binOp .neq 4 (.tmp 65) (.tmp 66) 4, some (62, false)⟩,
    ⟨some 68, .pick (.tmp 62) (.const (.bool true)) (.tmp 67), none⟩]) (.cond (.tmp 68) (.seq (.reg [⟨some 2, .assign (.const (.bool false)), none⟩]) .ret) .skip)) (.seq (.reg [⟨some 69, .move (.tmp 6), none⟩,
    ⟨some 70, .binOp .eql 3 (.tmp 69) (.const (.int .i64 12)) 3, none⟩]) (.cond (.tmp 70) (.reg [⟨some 71, .move (.tmp 4), none⟩,
    ⟨some 72, .fieldAddr 34 (.tmp 7) 3, none⟩,
    ⟨some 73, .load 9 (.tmp 72), none⟩,
    ⟨none, .call { callee := .builtin .delete, args := #[.tmp 71, .tmp 73], argTypes := #[54, 9] }, none⟩]) .skip)))))))) (.reg [⟨some 97, .load 29 (.tmp 9), none⟩,
    ⟨none, .store 29 (.tmp 3) (.tmp 97), none⟩])))))))) (.reg [⟨some 25, .move (.tmp 5), none⟩,
    ⟨some 26, .binOp .add 3 (.tmp 25) (.const (.int .i64 1)) 3, none⟩,
    ⟨some 5, .assign (.tmp 26), none⟩]))
def lb_rostrumkeep_SetModel_1 : ACode := .seq (.seq (.reg [⟨some 98, .move (.tmp 12), none⟩,
    ⟨some 99, .fieldAddr 29 (.tmp 3) 4, none⟩,
    ⟨some 100, .load 26 (.tmp 99), none⟩,
    ⟨some 101, .call { callee := .builtin .len, args := #[.tmp 100], argTypes := #[26] }, none⟩,
    ⟨some 102, .binOp .lss 3 (.tmp 98) (.tmp 101) 3, none⟩]) (.cond (.tmp 102) .skip (.exit 3))) (.seq (.block 4 (.seq (.regD [([⟨some 105, .move (.tmp 4), none⟩,
    ⟨some 106, .fieldAddr 29 (.tmp 3) 4, none⟩,
    ⟨some 107, .load 26 (.tmp 106), none⟩,
    ⟨some 108, .move (.tmp 12), none⟩,
    ⟨some 109, .indexAddr 26 (.tmp 107) (.tmp 108), none⟩,
    ⟨some 110, .load 9 (.tmp 109), none⟩,
    ⟨some 111, .lookup 54 (.tmp 105) (.tmp 110) false, none⟩,
    ⟨some 112, .unOp .not 4 (.tmp 111), none⟩,
    ⟨some 113, .move (.tmp 112), none⟩,
    ⟨some 114, .move (.tmp 12), some (113, false)⟩,
    ⟨some 115, .binOp .gtr 3 (.tmp 114) (.const (.int .i64 0)) 3, some (113, false)⟩,
    ⟨some 116, .move (.tmp 115), some (113, false)⟩,
    ⟨some 117, .fieldAddr 29 (.tmp 3) 4, some (116, true)⟩,
    ⟨some 118, .load 26 (.tmp 117), some (116, true)⟩,
    ⟨some 119, .move (.tmp 12), some (116, true)⟩,
    ⟨some 120, .binOp .sub 3 (.tmp 119) (.const (.int .i64 1)) 3, some (116, true)⟩,
    ⟨some 121, .indexAddr 26 (.tmp 118) (.tmp 120), some (116, true)⟩,
    ⟨some 122, .load 9 (.tmp 121), some (116, true)⟩,
    ⟨some 123, .fieldAddr 29 (.tmp 3) 4, some (116, true)⟩,
    ⟨some 124, .load 26 (.tmp 123), some (116, true)⟩,
    ⟨some 125, .move (.tmp 12), some (116, true)⟩,
    ⟨some 126, .indexAddr 26 (.tmp 124) (.tmp 125), some (116, true)⟩,
    ⟨some 127, .load 9 (.tmp 126), some (116, true)⟩,
    ⟨some 128, .binOp .geq 9 (.tmp 122) (.tmp 127) 9, some (116, true)⟩,
    ⟨some 129, .pick (.tmp 116) (.tmp 128) (.const (.bool false)), some (113, false)⟩,
    ⟨some 130, .pick (.tmp 113) (.const (.bool true)) (.tmp 129), none⟩], [])]) (.cond (.tmp 130) (.seq (.reg [⟨some 2, .assign (.const (.bool false)), none⟩]) .ret) .skip))) (.reg [⟨some 103, .move (.tmp 12), none⟩,
    ⟨some 104, .binOp .add 3 (.tmp 103) (.const (.int .i64 1)) 3, none⟩,
    ⟨some 12, .assign (.tmp 104), none⟩]))
theorem encI_true {m : List ByteArray} {f : ByteArray} {x : Value} (h : mpFind (encI m) f = some x) : x = .bool true := by
  obtain ⟨e, he, h2⟩ := find_val h
  obtain ⟨p, _, rfl⟩ := List.mem_map.1 he
  exact h2.symm
def rawS (k : Int) (r : Raw) : Raw := ⟨k - 1, 0, 0, IntKind.i64.wrap (3 * r.field), ⟨#[]⟩⟩
theorem rawS_ok {k : Int} (h1 : 1 ≤ k) (h2 : k ≤ 22) (r : Raw) : (rawS k r).Ok := ⟨by show i64 (k - 1); unfold i64; omega, by show i64 0; unfold i64; omega, by show i64 0; unfold i64; omega, wrap_i64 _⟩
theorem cmd_rawS {k : Int} (h1 : 1 ≤ k) (h2 : k ≤ 22) (r : Raw) : cmdR (rawS k r) = cmdK k (rawS k r) := by
  unfold cmdR
  rw [show pk (rawS k r).kind 22 = k - 1 from pk_small (by show 0 ≤ k - 1; omega) (by show k - 1 < 22; omega), show 1 + (k - 1) = k by omega]
theorem set_one : DoV zeroV ⟨11, kS, eS, eS, 0⟩ = (⟨5, eS, 0, [], [eS], []⟩, toldR 1, 0) := by
  have o1 : checkC ⟨11, kS, eS, eS, 0⟩ = 0 := cmd_form (by omega) (by omega) (.inr ⟨by omega, rfl⟩) (.inr rfl) (.inr rfl)
  have b1 : setIn [] eS = false := rfl
  have b2 : setAt [] eS = 0 := rfl
  have ins : ∀ {α : Type} (x : α), insAt [] 0 x = [x] := fun x => by simp [insAt]
  exact (one_made (v := ⟨5, eS, 0, [], [eS], []⟩) (r := toldR 1) o1 rfl (by unfold doV setV; simp [kindOfC, b1, b2, ins]) rfl rfl (by show (3 : Int) ≤ 5; omega)).1
abbrev smSt (G : Nat → AV) (l : List Raw) (x : Nat × Val × Mp1) : S := ⟨[(0, .one (.v (.sl (l.map Raw.row)))), (3, .one (.ptr 0 0)), (4, .one (.mp 1)), (5, iV x.1)], G, [some (.box 29 x.2.1.c), some (.mp 54 x.2.2)]⟩
abbrev smA (l : List Raw) (x : Nat × Val × Mp1) : Prop := x.1 ≤ l.length ∧ x.1 ≤ 30 ∧ SetI x.2.1 ∧ Same x.2.2 (encI x.2.1.items)
abbrev smM (x : Nat × Val × Mp1) : Nat := 30 - x.1
theorem sm_step0 (l : List Raw) (hn : (l.length : Int) ≤ 9223372036854775807) (Q : Exit → S → Prop) (i : Nat) (v : Val) (es : Mp1) (hlt : i < l.length ∧ i < 30) (hI : SetI v) (hS : Same es (encI v.items)) (r : Raw) (hr : l[i]? = some r) (hok : r.Ok) (e : pk r.kind 4 = 0) :
    awp Try.prog 0 lb_rostrumkeep_SetModel_0 (thenA (Again 0 (smSt G l) (smA l) smM (i, v, es)) Q) (smSt G l (i, v, es)) := by
  have w1 : IntKind.i64.wrap ((i : Int) + 1) = (i : Int) + 1 := IntWalk.i64_in _ (by omega)
  have hpk := picked_c (G := G) r.kind 4 hok.kind (by omega)
  have q1 : decide (i < l.length) = true := by simp; omega
  have q2 : decide ((i : Int) < 30) = true := by simp; omega
  have hes := hS.len
  rw [encI_len] at hes
  rw [e] at hpk
  have hco := cmdR_ok (rawS_ok (k := 11) (by omega) (by omega) r)
  have hcm := commandR_c (G := G) (rawS 11 r) (rawS_ok (by omega) (by omega) r)
  have hfn : (cmdR (rawS 11 r)).text ∈ ten := by rw [cmd_rawS (by omega) (by omega)]; exact text_ten _
  have hck : (cmdR (rawS 11 r)).kind = 11 := by rw [cmd_rawS (by omega) (by omega)]; rfl
  generalize cmdR (rawS 11 r) = c at *
  obtain ⟨x, hx⟩ : ∃ x, mpFind es c.text = x := ⟨_, rfl⟩
  obtain ⟨w, rp, hd, hwI, hwk, a11, a0, a13, a12⟩ := set_do (x := x) hI hco (by omega) hfn (by rw [← hS.find]; exact hx)
  have hdo := Do_c (G := G) v c hI.vk.small
  rw [hd] at hdo
  have hxs : x = none ∨ x = some (.bool true) := by
    cases x with
    | none => exact .inl rfl
    | some x => exact .inr (by have h1 : x = .bool true := encI_true (m := v.items) (f := c.text) (by rw [← hS.find]; exact hx)
                               rw [h1])
  obtain ⟨kk, key, f, tx, cn⟩ := c
  obtain ⟨rc, rt, rn, rl⟩ := rp
  simp only at hck hx a11 a0 a13 a12
  subst hck
  simp only [rawS] at hcm
  have hag : ∀ es', (Same es' (encI w.items)) → SetI w → (i + 1 ≤ l.length ∧ i + 1 ≤ 30 ∧ SetI w ∧ Same es' (encI w.items)) := fun es' h1 h2 => ⟨hlt.1, hlt.2, h2, h1⟩
  have hm : 30 - (i + 1) < 30 - i := by omega
  simp only [DoA, Val.c, Rep.c, Cmd.c, smSt] at hdo hcm ⊢
  unfold lb_rostrumkeep_SetModel_0
  obtain ⟨b1, b2, b3, b4⟩ := a11 rfl
  subst b1
  have hS' : Same (mpPut es tx (.bool true)) (encI w.items) := hS.put (by rw [← hS.find, hx]; exact b3) b4
  rcases hxs with hxs | hxs
  all_goals
    subst hxs
    simp only [Option.isSome_none, Option.isSome_some, Bool.not_true, Bool.not_false] at b2
    repeat' (first | (with_reducible first | refine Cnd.intro (fun h => ?_) (fun h => ?_) | refine And.intro ?_ ?_ | refine Wk.refl ?_ | exact Weak.refl _ _ | refine weak_auto ?_ | apply awp_join) | ((try with_reducible refine CallZ.l ?_); with_reducible refine qcf (by first | exact hpk | exact hcm | exact hdo) ?_ ?_) | ((try with_reducible refine CallZ.l ?_); with_reducible refine qcn (by first | exact qkc hpk (by with_unfolding_all rfl) | exact qkc hcm (by with_unfolding_all rfl) | exact qkc hdo (by with_unfolding_all rfl)) ?_) | ((with_reducible refine qcz (by first | exact qkz hpk (by with_unfolding_all rfl) | exact qkz hcm (by with_unfolding_all rfl) | exact qkz hdo (by with_unfolding_all rfl)) ?_); intro zh1 zq1; (try simp -dsimp [go_sem] at zq1); obtain ⟨rfl⟩ := zq1) | (with_reducible refine CallZ.z ?_) | simp -dsimp [go_sem, hr, Raw.row, hx, w1, q1, q2, b2])
    all_goals first
      | exact hlt.1
      | omega
      | (refine Again.auto (i + 1, w, mpPut es tx (.bool true)) ?_ (hag _ hS' hwI) hm
         simp -dsimp [go_sem, Val.c])
      | (exfalso; simp at *; omega)
theorem sm_step1 (l : List Raw) (hn : (l.length : Int) ≤ 9223372036854775807) (Q : Exit → S → Prop) (i : Nat) (v : Val) (es : Mp1) (hlt : i < l.length ∧ i < 30) (hI : SetI v) (hS : Same es (encI v.items)) (r : Raw) (hr : l[i]? = some r) (hok : r.Ok) (e : pk r.kind 4 = 1) :
    awp Try.prog 0 lb_rostrumkeep_SetModel_0 (thenA (Again 0 (smSt G l) (smA l) smM (i, v, es)) Q) (smSt G l (i, v, es)) := by
  have w1 : IntKind.i64.wrap ((i : Int) + 1) = (i : Int) + 1 := IntWalk.i64_in _ (by omega)
  have hpk := picked_c (G := G) r.kind 4 hok.kind (by omega)
  have q1 : decide (i < l.length) = true := by simp; omega
  have q2 : decide ((i : Int) < 30) = true := by simp; omega
  have hes := hS.len
  rw [encI_len] at hes
  rw [e] at hpk
  have hco := cmdR_ok (rawS_ok (k := 11) (by omega) (by omega) r)
  have hcm := commandR_c (G := G) (rawS 11 r) (rawS_ok (by omega) (by omega) r)
  have hfn : (cmdR (rawS 11 r)).text ∈ ten := by rw [cmd_rawS (by omega) (by omega)]; exact text_ten _
  have hck : (cmdR (rawS 11 r)).kind = 11 := by rw [cmd_rawS (by omega) (by omega)]; rfl
  generalize cmdR (rawS 11 r) = c at *
  obtain ⟨x, hx⟩ : ∃ x, mpFind es c.text = x := ⟨_, rfl⟩
  obtain ⟨w, rp, hd, hwI, hwk, a11, a0, a13, a12⟩ := set_do (x := x) hI hco (by omega) hfn (by rw [← hS.find]; exact hx)
  have hdo := Do_c (G := G) v c hI.vk.small
  rw [hd] at hdo
  have hxs : x = none ∨ x = some (.bool true) := by
    cases x with
    | none => exact .inl rfl
    | some x => exact .inr (by have h1 : x = .bool true := encI_true (m := v.items) (f := c.text) (by rw [← hS.find]; exact hx)
                               rw [h1])
  obtain ⟨kk, key, f, tx, cn⟩ := c
  obtain ⟨rc, rt, rn, rl⟩ := rp
  simp only at hck hx a11 a0 a13 a12
  subst hck
  simp only [rawS] at hcm
  have hag : ∀ es', (Same es' (encI w.items)) → SetI w → (i + 1 ≤ l.length ∧ i + 1 ≤ 30 ∧ SetI w ∧ Same es' (encI w.items)) := fun es' h1 h2 => ⟨hlt.1, hlt.2, h2, h1⟩
  have hm : 30 - (i + 1) < 30 - i := by omega
  simp only [DoA, Val.c, Rep.c, Cmd.c, smSt] at hdo hcm ⊢
  unfold lb_rostrumkeep_SetModel_0
  obtain ⟨b1, b2, b3, b4⟩ := a11 rfl
  subst b1
  have hS' : Same (mpPut es tx (.bool true)) (encI w.items) := hS.put (by rw [← hS.find, hx]; exact b3) b4
  rcases hxs with hxs | hxs
  all_goals
    subst hxs
    simp only [Option.isSome_none, Option.isSome_some, Bool.not_true, Bool.not_false] at b2
    repeat' (first | (with_reducible first | refine Cnd.intro (fun h => ?_) (fun h => ?_) | refine And.intro ?_ ?_ | refine Wk.refl ?_ | exact Weak.refl _ _ | refine weak_auto ?_ | apply awp_join) | ((try with_reducible refine CallZ.l ?_); with_reducible refine qcf (by first | exact hpk | exact hcm | exact hdo) ?_ ?_) | ((try with_reducible refine CallZ.l ?_); with_reducible refine qcn (by first | exact qkc hpk (by with_unfolding_all rfl) | exact qkc hcm (by with_unfolding_all rfl) | exact qkc hdo (by with_unfolding_all rfl)) ?_) | ((with_reducible refine qcz (by first | exact qkz hpk (by with_unfolding_all rfl) | exact qkz hcm (by with_unfolding_all rfl) | exact qkz hdo (by with_unfolding_all rfl)) ?_); intro zh1 zq1; (try simp -dsimp [go_sem] at zq1); obtain ⟨rfl⟩ := zq1) | (with_reducible refine CallZ.z ?_) | simp -dsimp [go_sem, hr, Raw.row, hx, w1, q1, q2, b2])
    all_goals first
      | exact hlt.1
      | omega
      | (refine Again.auto (i + 1, w, mpPut es tx (.bool true)) ?_ (hag _ hS' hwI) hm
         simp -dsimp [go_sem, Val.c])
      | (exfalso; simp at *; omega)
theorem sm_step2 (l : List Raw) (hn : (l.length : Int) ≤ 9223372036854775807) (Q : Exit → S → Prop) (i : Nat) (v : Val) (es : Mp1) (hlt : i < l.length ∧ i < 30) (hI : SetI v) (hS : Same es (encI v.items)) (r : Raw) (hr : l[i]? = some r) (hok : r.Ok) (e : pk r.kind 4 = 2) :
    awp Try.prog 0 lb_rostrumkeep_SetModel_0 (thenA (Again 0 (smSt G l) (smA l) smM (i, v, es)) Q) (smSt G l (i, v, es)) := by
  have w1 : IntKind.i64.wrap ((i : Int) + 1) = (i : Int) + 1 := IntWalk.i64_in _ (by omega)
  have hpk := picked_c (G := G) r.kind 4 hok.kind (by omega)
  have q1 : decide (i < l.length) = true := by simp; omega
  have q2 : decide ((i : Int) < 30) = true := by simp; omega
  have hes := hS.len
  rw [encI_len] at hes
  rw [e] at hpk
  have hco := cmdR_ok (rawS_ok (k := 12) (by omega) (by omega) r)
  have hcm := commandR_c (G := G) (rawS 12 r) (rawS_ok (by omega) (by omega) r)
  have hfn : (cmdR (rawS 12 r)).text ∈ ten := by rw [cmd_rawS (by omega) (by omega)]; exact text_ten _
  have hck : (cmdR (rawS 12 r)).kind = 12 := by rw [cmd_rawS (by omega) (by omega)]; rfl
  generalize cmdR (rawS 12 r) = c at *
  obtain ⟨x, hx⟩ : ∃ x, mpFind es c.text = x := ⟨_, rfl⟩
  obtain ⟨w, rp, hd, hwI, hwk, a11, a0, a13, a12⟩ := set_do (x := x) hI hco (by omega) hfn (by rw [← hS.find]; exact hx)
  have hdo := Do_c (G := G) v c hI.vk.small
  rw [hd] at hdo
  have hxs : x = none ∨ x = some (.bool true) := by
    cases x with
    | none => exact .inl rfl
    | some x => exact .inr (by have h1 : x = .bool true := encI_true (m := v.items) (f := c.text) (by rw [← hS.find]; exact hx)
                               rw [h1])
  obtain ⟨kk, key, f, tx, cn⟩ := c
  obtain ⟨rc, rt, rn, rl⟩ := rp
  simp only at hck hx a11 a0 a13 a12
  subst hck
  simp only [rawS] at hcm
  have hag : ∀ es', (Same es' (encI w.items)) → SetI w → (i + 1 ≤ l.length ∧ i + 1 ≤ 30 ∧ SetI w ∧ Same es' (encI w.items)) := fun es' h1 h2 => ⟨hlt.1, hlt.2, h2, h1⟩
  have hm : 30 - (i + 1) < 30 - i := by omega
  simp only [DoA, Val.c, Rep.c, Cmd.c, smSt] at hdo hcm ⊢
  unfold lb_rostrumkeep_SetModel_0
  by_cases h0 : es.length = 0
  · obtain ⟨b1, b2⟩ := a0 (by decide) (by omega)
    subst b1; subst b2
    have q3 : ((es.length : Int) == 0) = true := by rw [beq_iff_eq]; omega
    repeat' (first | (with_reducible first | refine Cnd.intro (fun h => ?_) (fun h => ?_) | refine And.intro ?_ ?_ | refine Wk.refl ?_ | exact Weak.refl _ _ | refine weak_auto ?_ | apply awp_join) | ((try with_reducible refine CallZ.l ?_); with_reducible refine qcf (by first | exact hpk | exact hcm | exact hdo) ?_ ?_) | ((try with_reducible refine CallZ.l ?_); with_reducible refine qcn (by first | exact qkc hpk (by with_unfolding_all rfl) | exact qkc hcm (by with_unfolding_all rfl) | exact qkc hdo (by with_unfolding_all rfl)) ?_) | ((with_reducible refine qcz (by first | exact qkz hpk (by with_unfolding_all rfl) | exact qkz hcm (by with_unfolding_all rfl) | exact qkz hdo (by with_unfolding_all rfl)) ?_); intro zh1 zq1; (try simp -dsimp [go_sem] at zq1); obtain ⟨rfl⟩ := zq1) | (with_reducible refine CallZ.z ?_) | simp -dsimp [go_sem, hr, Raw.row, hx, w1, q1, q2, q3])
    all_goals first
      | exact hlt.1
      | omega
      | (refine Again.auto (i + 1, w, es) ?_ (hag _ hS hwI) hm
         simp -dsimp [go_sem, Val.c])
      | (exfalso; simp at *; omega)
  · have q3 : ((es.length : Int) == 0) = false := by rw [beq_eq_false_iff_ne]; omega
    obtain ⟨b1, b2, b3, b4⟩ := a12 rfl (by omega)
    subst b1
    have hS' : Same (mpDel es tx) (encI w.items) := hS.del (by rw [← hS.find, hx]; exact b3) b4
    rcases hxs with hxs | hxs
    all_goals
      subst hxs
      simp only [Option.isSome_none, Option.isSome_some] at b2
      repeat' (first | (with_reducible first | refine Cnd.intro (fun h => ?_) (fun h => ?_) | refine And.intro ?_ ?_ | refine Wk.refl ?_ | exact Weak.refl _ _ | refine weak_auto ?_ | apply awp_join) | ((try with_reducible refine CallZ.l ?_); with_reducible refine qcf (by first | exact hpk | exact hcm | exact hdo) ?_ ?_) | ((try with_reducible refine CallZ.l ?_); with_reducible refine qcn (by first | exact qkc hpk (by with_unfolding_all rfl) | exact qkc hcm (by with_unfolding_all rfl) | exact qkc hdo (by with_unfolding_all rfl)) ?_) | ((with_reducible refine qcz (by first | exact qkz hpk (by with_unfolding_all rfl) | exact qkz hcm (by with_unfolding_all rfl) | exact qkz hdo (by with_unfolding_all rfl)) ?_); intro zh1 zq1; (try simp -dsimp [go_sem] at zq1); obtain ⟨rfl⟩ := zq1) | (with_reducible refine CallZ.z ?_) | simp -dsimp [go_sem, hr, Raw.row, hx, w1, q1, q2, q3, b2])
      all_goals first
        | exact hlt.1
        | omega
        | (refine Again.auto (i + 1, w, mpDel es tx) ?_ (hag _ hS' hwI) hm
           simp -dsimp [go_sem, Val.c])
        | (exfalso; simp at *; omega)
theorem sm_step3 (l : List Raw) (hn : (l.length : Int) ≤ 9223372036854775807) (Q : Exit → S → Prop) (i : Nat) (v : Val) (es : Mp1) (hlt : i < l.length ∧ i < 30) (hI : SetI v) (hS : Same es (encI v.items)) (r : Raw) (hr : l[i]? = some r) (hok : r.Ok) (e : pk r.kind 4 = 3) :
    awp Try.prog 0 lb_rostrumkeep_SetModel_0 (thenA (Again 0 (smSt G l) (smA l) smM (i, v, es)) Q) (smSt G l (i, v, es)) := by
  have w1 : IntKind.i64.wrap ((i : Int) + 1) = (i : Int) + 1 := IntWalk.i64_in _ (by omega)
  have hpk := picked_c (G := G) r.kind 4 hok.kind (by omega)
  have q1 : decide (i < l.length) = true := by simp; omega
  have q2 : decide ((i : Int) < 30) = true := by simp; omega
  have hes := hS.len
  rw [encI_len] at hes
  rw [e] at hpk
  have hco := cmdR_ok (rawS_ok (k := 13) (by omega) (by omega) r)
  have hcm := commandR_c (G := G) (rawS 13 r) (rawS_ok (by omega) (by omega) r)
  have hfn : (cmdR (rawS 13 r)).text ∈ ten := by rw [cmd_rawS (by omega) (by omega)]; exact text_ten _
  have hck : (cmdR (rawS 13 r)).kind = 13 := by rw [cmd_rawS (by omega) (by omega)]; rfl
  generalize cmdR (rawS 13 r) = c at *
  obtain ⟨x, hx⟩ : ∃ x, mpFind es c.text = x := ⟨_, rfl⟩
  obtain ⟨w, rp, hd, hwI, hwk, a11, a0, a13, a12⟩ := set_do (x := x) hI hco (by omega) hfn (by rw [← hS.find]; exact hx)
  have hdo := Do_c (G := G) v c hI.vk.small
  rw [hd] at hdo
  have hxs : x = none ∨ x = some (.bool true) := by
    cases x with
    | none => exact .inl rfl
    | some x => exact .inr (by have h1 : x = .bool true := encI_true (m := v.items) (f := c.text) (by rw [← hS.find]; exact hx)
                               rw [h1])
  obtain ⟨kk, key, f, tx, cn⟩ := c
  obtain ⟨rc, rt, rn, rl⟩ := rp
  simp only at hck hx a11 a0 a13 a12
  subst hck
  simp only [rawS] at hcm
  have hag : ∀ es', (Same es' (encI w.items)) → SetI w → (i + 1 ≤ l.length ∧ i + 1 ≤ 30 ∧ SetI w ∧ Same es' (encI w.items)) := fun es' h1 h2 => ⟨hlt.1, hlt.2, h2, h1⟩
  have hm : 30 - (i + 1) < 30 - i := by omega
  simp only [DoA, Val.c, Rep.c, Cmd.c, smSt] at hdo hcm ⊢
  unfold lb_rostrumkeep_SetModel_0
  by_cases h0 : es.length = 0
  · obtain ⟨b1, b2⟩ := a0 (by decide) (by omega)
    subst b1; subst b2
    have q3 : ((es.length : Int) == 0) = true := by rw [beq_iff_eq]; omega
    repeat' (first | (with_reducible first | refine Cnd.intro (fun h => ?_) (fun h => ?_) | refine And.intro ?_ ?_ | refine Wk.refl ?_ | exact Weak.refl _ _ | refine weak_auto ?_ | apply awp_join) | ((try with_reducible refine CallZ.l ?_); with_reducible refine qcf (by first | exact hpk | exact hcm | exact hdo) ?_ ?_) | ((try with_reducible refine CallZ.l ?_); with_reducible refine qcn (by first | exact qkc hpk (by with_unfolding_all rfl) | exact qkc hcm (by with_unfolding_all rfl) | exact qkc hdo (by with_unfolding_all rfl)) ?_) | ((with_reducible refine qcz (by first | exact qkz hpk (by with_unfolding_all rfl) | exact qkz hcm (by with_unfolding_all rfl) | exact qkz hdo (by with_unfolding_all rfl)) ?_); intro zh1 zq1; (try simp -dsimp [go_sem] at zq1); obtain ⟨rfl⟩ := zq1) | (with_reducible refine CallZ.z ?_) | simp -dsimp [go_sem, hr, Raw.row, hx, w1, q1, q2, q3])
    all_goals first
      | exact hlt.1
      | omega
      | (refine Again.auto (i + 1, w, es) ?_ (hag _ hS hwI) hm
         simp -dsimp [go_sem, Val.c])
      | (exfalso; simp at *; omega)
  · have q3 : ((es.length : Int) == 0) = false := by rw [beq_eq_false_iff_ne]; omega
    obtain ⟨b1, b2, b3⟩ := a13 rfl (by omega)
    subst b1; subst b2
    rcases hxs with hxs | hxs
    all_goals
      subst hxs
      simp only [Option.isSome_none, Option.isSome_some] at b3
      repeat' (first | (with_reducible first | refine Cnd.intro (fun h => ?_) (fun h => ?_) | refine And.intro ?_ ?_ | refine Wk.refl ?_ | exact Weak.refl _ _ | refine weak_auto ?_ | apply awp_join) | ((try with_reducible refine CallZ.l ?_); with_reducible refine qcf (by first | exact hpk | exact hcm | exact hdo) ?_ ?_) | ((try with_reducible refine CallZ.l ?_); with_reducible refine qcn (by first | exact qkc hpk (by with_unfolding_all rfl) | exact qkc hcm (by with_unfolding_all rfl) | exact qkc hdo (by with_unfolding_all rfl)) ?_) | ((with_reducible refine qcz (by first | exact qkz hpk (by with_unfolding_all rfl) | exact qkz hcm (by with_unfolding_all rfl) | exact qkz hdo (by with_unfolding_all rfl)) ?_); intro zh1 zq1; (try simp -dsimp [go_sem] at zq1); obtain ⟨rfl⟩ := zq1) | (with_reducible refine CallZ.z ?_) | simp -dsimp [go_sem, hr, Raw.row, hx, w1, q1, q2, q3, b3])
      all_goals first
        | exact hlt.1
        | omega
        | (refine Again.auto (i + 1, w, es) ?_ (hag _ hS hwI) hm
           simp -dsimp [go_sem, Val.c])
        | (exfalso; simp at *; omega)
abbrev smSt2 (G : Nat → AV) (vk vn : Int) (vt : ByteArray) (vp : List Pr) (vi : List ByteArray) (vs : List Sc) (es : Mp1) (j : Nat) : S := ⟨[(3, .one (.ptr 0 0)), (4, .one (.mp 1)), (12, iV j)], G, [some (.box 29 [iC vk, sC vt, iC vn, .v (.sl (pR vp)), .v (.sl (strRows vi)), .v (.sl (sR vs))]), some (.mp 54 es)]⟩
theorem sm_step9 (vk vn : Int) (vt : ByteArray) (vp : List Pr) (vi : List ByteArray) (vs : List Sc) (es : Mp1) (Q : Exit → S → Prop) (hlen : vi.length ≤ 1000) (hS : Same es (encI vi)) (hone : Once (encI vi)) (hrise : vi.Pairwise (fun a b => cmpB a b < 0)) (j : Nat) (hjl : j < vi.length) :
    awp Try.prog 0 lb_rostrumkeep_SetModel_1 (thenA (Again 0 (smSt2 G vk vn vt vp vi vs es) (fun j => j ≤ vi.length) (fun j => vi.length - j) j) Q) (smSt2 G vk vn vt vp vi vs es j) := by
  simp only [smSt2]
  have w2 : IntKind.i64.wrap ((j : Int) + 1) = (j : Int) + 1 := IntWalk.i64_in _ (by omega)
  have q3 : decide (j < vi.length) = true := by simpa using hjl
  obtain ⟨a, ha⟩ : ∃ x, vi[j]? = some x := ⟨_, List.getElem?_eq_getElem hjl⟩
  have hfa : mpFind es a = some (.bool true) := by
    rw [hS.find]
    exact find_at hone (i := j) (by unfold encI; rw [List.getElem?_map, ha]; rfl)
  unfold lb_rostrumkeep_SetModel_1
  by_cases hj0 : j = 0
  · have q4 : decide (0 < j) = false := by simpa using hj0
    repeat' (first | (with_reducible first | refine Cnd.intro (fun h => ?_) (fun h => ?_) | refine And.intro ?_ ?_ | refine Wk.refl ?_ | exact Weak.refl _ _ | refine weak_auto ?_ | apply awp_join) | (with_reducible refine CallZ.z ?_) | simp -dsimp [go_sem, ha, hfa, w2, q3, q4])
    all_goals first
      | omega
      | (refine Again.auto (j + 1) ?_ hjl ?_
         · simp -dsimp [go_sem]
         · show vi.length - (j + 1) < vi.length - j; omega)
  · obtain ⟨p, hp⟩ : ∃ p, j = p + 1 := ⟨j - 1, by omega⟩
    have ha' := ha
    rw [hp] at ha'
    have q4 : decide (0 < j) = true := by simp; omega
    obtain ⟨b, hb⟩ : ∃ x, vi[p]? = some x := ⟨_, List.getElem?_eq_getElem (by omega)⟩
    have w3 : IntKind.i64.wrap (p : Int) = p := IntWalk.i64_in _ (by omega)
    have e5 : IntKind.i64.wrap ((j : Int) - 1) = (p : Int) := by rw [IntWalk.i64_in _ (by omega)]; omega
    have hr : lessB b a = true := by rw [lessB_eq]; simpa using pw_nextS hrise hb ha'
    repeat' (first | (with_reducible first | refine Cnd.intro (fun h => ?_) (fun h => ?_) | refine And.intro ?_ ?_ | refine Wk.refl ?_ | exact Weak.refl _ _ | refine weak_auto ?_ | apply awp_join) | (with_reducible refine CallZ.z ?_) | simp -dsimp [go_sem, ha, hb, hfa, w2, w3, e5, q3, q4, hr])
    all_goals first
      | omega
      | (refine Again.auto (j + 1) ?_ hjl ?_
         · simp -dsimp [go_sem]
         · show vi.length - (j + 1) < vi.length - j; omega)
theorem setModel_a (l : List Raw) (hl : ∀ r ∈ l, r.Ok) (hn : (l.length : Int) ≤ 9223372036854775807) (h30 : l.length ≤ 30) : PCall Try.prog G 8 [.one (.v (.sl (l.map Raw.row)))] (bV true) := by
  have d1 := Do_c (G := G) zeroV ⟨11, kS, eS, eS, 0⟩ zeroV_small
  rw [set_one] at d1
  simp only [DoA, Val.c, Rep.c, Cmd.c, toldR, zeroV, List.map_nil, List.map_cons] at d1
  refine pcall mixed Try.func8 ok_rostrumkeep_SetModel rs_rostrumkeep_SetModel (by simp [Try.f8]) ?_
  unfold ac_rostrumkeep_SetModel
  repeat' (first | (with_reducible first | refine Cnd.intro (fun h => ?_) (fun h => ?_) | refine And.intro ?_ ?_ | refine Wk.refl ?_ | exact Weak.refl _ _ | refine weak_auto ?_ | apply awp_join) | (with_reducible refine CallZ.z ?_) | simp -dsimp [go_sem])
  refine awp_loop (smSt G l) (smA l) smM (0, zeroV, []) (weak_auto ?_) ⟨Nat.zero_le _, by omega, ⟨.inl rfl, fun p hp => by cases hp⟩, ⟨rfl, fun _ => rfl, .nil⟩⟩ ?_
  · simp -dsimp [go_sem, zeroV, Val.c]
  · rintro ⟨i, v, es⟩ ⟨hi, hi2, hI, hS⟩
    simp only at hi hi2 hI hS
    by_cases hlt : i < l.length ∧ i < 30
    · obtain ⟨r, hr⟩ : ∃ r, l[i]? = some r := ⟨_, List.getElem?_eq_getElem hlt.1⟩
      have hok := hl r (List.mem_of_getElem? hr)
      have hp := pk_range (n := r.kind) (m := 4) (by omega)
      have hcases : pk r.kind 4 = 0 ∨ pk r.kind 4 = 1 ∨ pk r.kind 4 = 2 ∨ pk r.kind 4 = 3 := by omega
      rcases hcases with e | e | e | e
      · exact sm_step0 l hn _ i v es hlt hI hS r hr hok e
      · exact sm_step1 l hn _ i v es hlt hI hS r hr hok e
      · exact sm_step2 l hn _ i v es hlt hI hS r hr hok e
      · exact sm_step3 l hn _ i v es hlt hI hS r hr hok e
    · have q1 : decide (i < l.length) = false := by simp; omega
      have hvs := hI.vk.small
      have hrise := hI.rise
      have hone := encI_once hrise
      have hlen := hS.len
      rw [encI_len] at hlen
      obtain ⟨vk, vt, vn, vp, vi, vs⟩ := v
      simp only at hrise hlen hone hS
      have hq0 : ((vi.length : Int) == es.length) = true := by simp; omega
      simp only [Val.c, smSt]
      repeat' (first | (with_reducible first | refine Cnd.intro (fun h => ?_) (fun h => ?_) | refine And.intro ?_ ?_ | refine Wk.refl ?_ | exact Weak.refl _ _ | refine weak_auto ?_ | apply awp_join) | (with_reducible refine CallZ.z ?_) | simp -dsimp [go_sem, q1])
      refine awp_loop (smSt2 G vk vn vt vp vi vs es) (fun j => j ≤ vi.length) (fun j => vi.length - j) 0 (weak_auto ?_) (Nat.zero_le _) ?_
      · simp -dsimp [go_sem]
      · intro j hj
        by_cases hjl : j < vi.length
        · exact sm_step9 vk vn vt vp vi vs es _ hvs.2.1 hS hone hrise j hjl
        · have q3 : decide (j < vi.length) = false := by simpa using hjl
          simp only [smSt2]
          repeat' (first | (with_reducible first | refine Cnd.intro (fun h => ?_) (fun h => ?_) | refine And.intro ?_ ?_ | refine Wk.refl ?_ | exact Weak.refl _ _ | refine weak_auto ?_ | apply awp_join) | ((try with_reducible refine CallZ.l ?_); with_reducible refine qcf (by first | exact d1) ?_ ?_) | ((try with_reducible refine CallZ.l ?_); with_reducible refine qcn (by first | exact qkc d1 (by with_unfolding_all rfl)) ?_) | ((with_reducible refine qcz (by first | exact qkz d1 (by with_unfolding_all rfl)) ?_); intro zh1 zq1; (try simp -dsimp [go_sem] at zq1); obtain ⟨rfl⟩ := zq1) | (with_reducible refine CallZ.z ?_) | simp -dsimp [go_sem, q3, hq0])
theorem setModel_b (l : List Raw) (hl : ∀ r ∈ l, r.Ok) (hn : (l.length : Int) ≤ 9223372036854775807) (h30 : l.length > 30) : PCall Try.prog G 8 [.one (.v (.sl (l.map Raw.row)))] (bV true) := by
  have d1 := Do_c (G := G) zeroV ⟨11, kS, eS, eS, 0⟩ zeroV_small
  rw [set_one] at d1
  simp only [DoA, Val.c, Rep.c, Cmd.c, toldR, zeroV, List.map_nil, List.map_cons] at d1
  refine pcall mixed Try.func8 ok_rostrumkeep_SetModel rs_rostrumkeep_SetModel (by simp [Try.f8]) ?_
  unfold ac_rostrumkeep_SetModel
  repeat' (first | (with_reducible first | refine Cnd.intro (fun h => ?_) (fun h => ?_) | refine And.intro ?_ ?_ | refine Wk.refl ?_ | exact Weak.refl _ _ | refine weak_auto ?_ | apply awp_join) | (with_reducible refine CallZ.z ?_) | simp -dsimp [go_sem])
  refine awp_loop (smSt G l) (smA l) smM (0, zeroV, []) (weak_auto ?_) ⟨Nat.zero_le _, by omega, ⟨.inl rfl, fun p hp => by cases hp⟩, ⟨rfl, fun _ => rfl, .nil⟩⟩ ?_
  · simp -dsimp [go_sem, zeroV, Val.c]
  · rintro ⟨i, v, es⟩ ⟨hi, hi2, hI, hS⟩
    simp only at hi hi2 hI hS
    by_cases hlt : i < l.length ∧ i < 30
    · obtain ⟨r, hr⟩ : ∃ r, l[i]? = some r := ⟨_, List.getElem?_eq_getElem hlt.1⟩
      have hok := hl r (List.mem_of_getElem? hr)
      have hp := pk_range (n := r.kind) (m := 4) (by omega)
      have hcases : pk r.kind 4 = 0 ∨ pk r.kind 4 = 1 ∨ pk r.kind 4 = 2 ∨ pk r.kind 4 = 3 := by omega
      rcases hcases with e | e | e | e
      · exact sm_step0 l hn _ i v es hlt hI hS r hr hok e
      · exact sm_step1 l hn _ i v es hlt hI hS r hr hok e
      · exact sm_step2 l hn _ i v es hlt hI hS r hr hok e
      · exact sm_step3 l hn _ i v es hlt hI hS r hr hok e
    · have q1 : decide (i < l.length) = true := by simp; omega
      have q2 : decide ((i : Int) < 30) = false := by simp; omega
      have hvs := hI.vk.small
      have hrise := hI.rise
      have hone := encI_once hrise
      have hlen := hS.len
      rw [encI_len] at hlen
      obtain ⟨vk, vt, vn, vp, vi, vs⟩ := v
      simp only at hrise hlen hone hS
      have hq0 : ((vi.length : Int) == es.length) = true := by simp; omega
      simp only [Val.c, smSt]
      repeat' (first | (with_reducible first | refine Cnd.intro (fun h => ?_) (fun h => ?_) | refine And.intro ?_ ?_ | refine Wk.refl ?_ | exact Weak.refl _ _ | refine weak_auto ?_ | apply awp_join) | (with_reducible refine CallZ.z ?_) | simp -dsimp [go_sem, q1, q2])
      refine awp_loop (smSt2 G vk vn vt vp vi vs es) (fun j => j ≤ vi.length) (fun j => vi.length - j) 0 (weak_auto ?_) (Nat.zero_le _) ?_
      · simp -dsimp [go_sem]
      · intro j hj
        by_cases hjl : j < vi.length
        · exact sm_step9 vk vn vt vp vi vs es _ hvs.2.1 hS hone hrise j hjl
        · have q3 : decide (j < vi.length) = false := by simpa using hjl
          simp only [smSt2]
          repeat' (first | (with_reducible first | refine Cnd.intro (fun h => ?_) (fun h => ?_) | refine And.intro ?_ ?_ | refine Wk.refl ?_ | exact Weak.refl _ _ | refine weak_auto ?_ | apply awp_join) | ((try with_reducible refine CallZ.l ?_); with_reducible refine qcf (by first | exact d1) ?_ ?_) | ((try with_reducible refine CallZ.l ?_); with_reducible refine qcn (by first | exact qkc d1 (by with_unfolding_all rfl)) ?_) | ((with_reducible refine qcz (by first | exact qkz d1 (by with_unfolding_all rfl)) ?_); intro zh1 zq1; (try simp -dsimp [go_sem] at zq1); obtain ⟨rfl⟩ := zq1) | (with_reducible refine CallZ.z ?_) | simp -dsimp [go_sem, q3, hq0])
theorem setModel_c (l : List Raw) (hl : ∀ r ∈ l, r.Ok) (hn : (l.length : Int) ≤ 9223372036854775807) : PCall Try.prog G 8 [.one (.v (.sl (l.map Raw.row)))] (bV true) := by
  rcases Nat.lt_or_ge 30 l.length with h | h
  · exact setModel_b l hl hn h
  · exact setModel_a l hl hn h
end Go.Proofs.Ytacdeehkdepiaaa
