/- FailKeeps: the walk. -/
import Derived.Test.YtmaiphnabebplaaA15
import Derived.Test.YtmaiphnabebplaaA9
set_option linter.unusedVariables false
set_option linter.unusedSimpArgs false
set_option maxRecDepth 100000
set_option maxHeartbeats 8000000
namespace Go.Proofs.Ytmaiphnabebplaa
open Go Go.RowKit Go.Proofs.AE
def ac_rostrumkeep_FailKeeps : ACode := .seq (.reg [⟨some 3, .box 26 (.tmp 1), none⟩,
    ⟨some 4, .assign (.const (.bool false)), none⟩]) (.seq (.reg [⟨some 12, .move (.tmp 0), none⟩,
    ⟨some 13, .call { callee := .value (.func 15), args := #[.tmp 12], argTypes := #[22] }, none⟩,
    ⟨some 5, .alloc 29, none⟩,
    ⟨none, .store 29 (.tmp 5) (.tmp 13), none⟩]) (.seq (.regD [([⟨some 15, .load 29 (.tmp 5), none⟩,
    ⟨some 16, .fieldAddr 29 (.tmp 5) 0, none⟩,
    ⟨some 17, .load 3 (.tmp 16), none⟩,
    ⟨some 18, .fieldAddr 26 (.tmp 3) 0, none⟩,
    ⟨some 19, .load 24 (.tmp 18), none⟩,
    ⟨some 20, .call { callee := .value (.func 18), args := #[.tmp 19], argTypes := #[24] }, none⟩,
    ⟨some 21, .call { callee := .value (.func 17), args := #[.tmp 15, .tmp 17, .tmp 20], argTypes := #[29, 3, 39] }, none⟩,
    ⟨some 14, .move (.tmp 21), none⟩,
    ⟨some 22, .extract (.tmp 14) 0, none⟩,
    ⟨some 23, .extract (.tmp 14) 1, none⟩,
    ⟨some 24, .extract (.tmp 14) 2, none⟩,
    ⟨some 6, .alloc 29, none⟩,
    ⟨some 7, .alloc 35, none⟩,
    ⟨none, .store 29 (.tmp 6) (.tmp 22), none⟩,
    ⟨none, .store 35 (.tmp 7) (.tmp 23), none⟩,
    ⟨some 8, .assign (.tmp 24), none⟩], [(0, 5), (0, 11), (0, 12), (2, 5), (2, 11), (2, 12), (4, 11), (4, 12)]), ([⟨some 15, .load 29 (.tmp 5), none⟩,
    ⟨some 16, .fieldAddr 29 (.tmp 5) 0, none⟩,
    ⟨some 17, .load 3 (.tmp 16), none⟩,
    ⟨some 18, .fieldAddr 26 (.tmp 3) 0, none⟩,
    ⟨some 19, .load 24 (.tmp 18), none⟩,
    ⟨some 20, .call { callee := .value (.func 18), args := #[.tmp 19], argTypes := #[24] }, none⟩,
    ⟨some 21, .call { callee := .value (.func 17), args := #[.tmp 15, .tmp 17, .tmp 20], argTypes := #[29, 3, 39] }, none⟩,
    ⟨some 14, .move (.tmp 21), none⟩,
    ⟨some 22, .extract (.tmp 14) 0, none⟩,
    ⟨some 23, .extract (.tmp 14) 1, none⟩,
    ⟨some 24, .extract (.tmp 14) 2, none⟩,
    ⟨some 7, .alloc 35, none⟩,
    ⟨some 6, .alloc 29, none⟩,
    ⟨none, .store 29 (.tmp 6) (.tmp 22), none⟩,
    ⟨none, .store 35 (.tmp 7) (.tmp 23), none⟩,
    ⟨some 8, .assign (.tmp 24), none⟩], [(0, 5), (0, 11), (0, 12), (2, 5), (2, 11), (2, 12), (4, 11), (4, 12)]), ([⟨some 15, .load 29 (.tmp 5), none⟩,
    ⟨some 16, .fieldAddr 29 (.tmp 5) 0, none⟩,
    ⟨some 17, .load 3 (.tmp 16), none⟩,
    ⟨some 18, .fieldAddr 26 (.tmp 3) 0, none⟩,
    ⟨some 19, .load 24 (.tmp 18), none⟩,
    ⟨some 20, .call { callee := .value (.func 18), args := #[.tmp 19], argTypes := #[24] }, none⟩,
    ⟨some 6, .alloc 29, none⟩,
    ⟨some 21, .call { callee := .value (.func 17), args := #[.tmp 15, .tmp 17, .tmp 20], argTypes := #[29, 3, 39] }, none⟩,
    ⟨some 14, .move (.tmp 21), none⟩,
    ⟨some 22, .extract (.tmp 14) 0, none⟩,
    ⟨some 23, .extract (.tmp 14) 1, none⟩,
    ⟨some 24, .extract (.tmp 14) 2, none⟩,
    ⟨some 7, .alloc 35, none⟩,
    ⟨none, .store 29 (.tmp 6) (.tmp 22), none⟩,
    ⟨none, .store 35 (.tmp 7) (.tmp 23), none⟩,
    ⟨some 8, .assign (.tmp 24), none⟩], [(0, 5), (0, 6), (0, 12), (2, 5), (2, 6), (2, 12), (4, 6), (4, 12)]), ([⟨some 15, .load 29 (.tmp 5), none⟩,
    ⟨some 16, .fieldAddr 29 (.tmp 5) 0, none⟩,
    ⟨some 17, .load 3 (.tmp 16), none⟩,
    ⟨some 18, .fieldAddr 26 (.tmp 3) 0, none⟩,
    ⟨some 19, .load 24 (.tmp 18), none⟩,
    ⟨some 20, .call { callee := .value (.func 18), args := #[.tmp 19], argTypes := #[24] }, none⟩,
    ⟨some 6, .alloc 29, none⟩,
    ⟨some 7, .alloc 35, none⟩,
    ⟨some 21, .call { callee := .value (.func 17), args := #[.tmp 15, .tmp 17, .tmp 20], argTypes := #[29, 3, 39] }, none⟩,
    ⟨some 14, .move (.tmp 21), none⟩,
    ⟨some 22, .extract (.tmp 14) 0, none⟩,
    ⟨some 23, .extract (.tmp 14) 1, none⟩,
    ⟨some 24, .extract (.tmp 14) 2, none⟩,
    ⟨none, .store 29 (.tmp 6) (.tmp 22), none⟩,
    ⟨none, .store 35 (.tmp 7) (.tmp 23), none⟩,
    ⟨some 8, .assign (.tmp 24), none⟩], [(0, 5), (0, 6), (0, 7), (2, 5), (2, 6), (2, 7), (4, 6), (4, 7)]), ([⟨some 15, .load 29 (.tmp 5), none⟩,
    ⟨some 16, .fieldAddr 29 (.tmp 5) 0, none⟩,
    ⟨some 17, .load 3 (.tmp 16), none⟩,
    ⟨some 18, .fieldAddr 26 (.tmp 3) 0, none⟩,
    ⟨some 19, .load 24 (.tmp 18), none⟩,
    ⟨some 20, .call { callee := .value (.func 18), args := #[.tmp 19], argTypes := #[24] }, none⟩,
    ⟨some 7, .alloc 35, none⟩,
    ⟨some 21, .call { callee := .value (.func 17), args := #[.tmp 15, .tmp 17, .tmp 20], argTypes := #[29, 3, 39] }, none⟩,
    ⟨some 14, .move (.tmp 21), none⟩,
    ⟨some 22, .extract (.tmp 14) 0, none⟩,
    ⟨some 23, .extract (.tmp 14) 1, none⟩,
    ⟨some 24, .extract (.tmp 14) 2, none⟩,
    ⟨some 6, .alloc 29, none⟩,
    ⟨none, .store 29 (.tmp 6) (.tmp 22), none⟩,
    ⟨none, .store 35 (.tmp 7) (.tmp 23), none⟩,
    ⟨some 8, .assign (.tmp 24), none⟩], [(0, 5), (0, 6), (0, 12), (2, 5), (2, 6), (2, 12), (4, 6), (4, 12)]), ([⟨some 15, .load 29 (.tmp 5), none⟩,
    ⟨some 16, .fieldAddr 29 (.tmp 5) 0, none⟩,
    ⟨some 17, .load 3 (.tmp 16), none⟩,
    ⟨some 18, .fieldAddr 26 (.tmp 3) 0, none⟩,
    ⟨some 19, .load 24 (.tmp 18), none⟩,
    ⟨some 20, .call { callee := .value (.func 18), args := #[.tmp 19], argTypes := #[24] }, none⟩,
    ⟨some 7, .alloc 35, none⟩,
    ⟨some 6, .alloc 29, none⟩,
    ⟨some 21, .call { callee := .value (.func 17), args := #[.tmp 15, .tmp 17, .tmp 20], argTypes := #[29, 3, 39] }, none⟩,
    ⟨some 14, .move (.tmp 21), none⟩,
    ⟨some 22, .extract (.tmp 14) 0, none⟩,
    ⟨some 23, .extract (.tmp 14) 1, none⟩,
    ⟨some 24, .extract (.tmp 14) 2, none⟩,
    ⟨none, .store 29 (.tmp 6) (.tmp 22), none⟩,
    ⟨none, .store 35 (.tmp 7) (.tmp 23), none⟩,
    ⟨some 8, .assign (.tmp 24), none⟩], [(0, 5), (0, 6), (0, 7), (2, 5), (2, 6), (2, 7), (4, 6), (4, 7)]), ([⟨some 15, .load 29 (.tmp 5), none⟩,
    ⟨some 16, .fieldAddr 29 (.tmp 5) 0, none⟩,
    ⟨some 17, .load 3 (.tmp 16), none⟩,
    ⟨some 18, .fieldAddr 26 (.tmp 3) 0, none⟩,
    ⟨some 19, .load 24 (.tmp 18), none⟩,
    ⟨some 6, .alloc 29, none⟩,
    ⟨some 20, .call { callee := .value (.func 18), args := #[.tmp 19], argTypes := #[24] }, none⟩,
    ⟨some 21, .call { callee := .value (.func 17), args := #[.tmp 15, .tmp 17, .tmp 20], argTypes := #[29, 3, 39] }, none⟩,
    ⟨some 14, .move (.tmp 21), none⟩,
    ⟨some 22, .extract (.tmp 14) 0, none⟩,
    ⟨some 23, .extract (.tmp 14) 1, none⟩,
    ⟨some 24, .extract (.tmp 14) 2, none⟩,
    ⟨some 7, .alloc 35, none⟩,
    ⟨none, .store 29 (.tmp 6) (.tmp 22), none⟩,
    ⟨none, .store 35 (.tmp 7) (.tmp 23), none⟩,
    ⟨some 8, .assign (.tmp 24), none⟩], [(0, 5), (0, 6), (0, 12), (2, 5), (2, 6), (2, 12), (4, 5), (4, 12)]), ([⟨some 15, .load 29 (.tmp 5), none⟩,
    ⟨some 16, .fieldAddr 29 (.tmp 5) 0, none⟩,
    ⟨some 17, .load 3 (.tmp 16), none⟩,
    ⟨some 18, .fieldAddr 26 (.tmp 3) 0, none⟩,
    ⟨some 19, .load 24 (.tmp 18), none⟩,
    ⟨some 6, .alloc 29, none⟩,
    ⟨some 20, .call { callee := .value (.func 18), args := #[.tmp 19], argTypes := #[24] }, none⟩,
    ⟨some 7, .alloc 35, none⟩,
    ⟨some 21, .call { callee := .value (.func 17), args := #[.tmp 15, .tmp 17, .tmp 20], argTypes := #[29, 3, 39] }, none⟩,
    ⟨some 14, .move (.tmp 21), none⟩,
    ⟨some 22, .extract (.tmp 14) 0, none⟩,
    ⟨some 23, .extract (.tmp 14) 1, none⟩,
    ⟨some 24, .extract (.tmp 14) 2, none⟩,
    ⟨none, .store 29 (.tmp 6) (.tmp 22), none⟩,
    ⟨none, .store 35 (.tmp 7) (.tmp 23), none⟩,
    ⟨some 8, .assign (.tmp 24), none⟩], [(0, 5), (0, 6), (0, 7), (2, 5), (2, 6), (2, 7), (4, 5), (4, 7)]), ([⟨some 15, .load 29 (.tmp 5), none⟩,
    ⟨some 16, .fieldAddr 29 (.tmp 5) 0, none⟩,
    ⟨some 17, .load 3 (.tmp 16), none⟩,
    ⟨some 18, .fieldAddr 26 (.tmp 3) 0, none⟩,
    ⟨some 19, .load 24 (.tmp 18), none⟩,
    ⟨some 6, .alloc 29, none⟩,
    ⟨some 7, .alloc 35, none⟩,
    ⟨some 20, .call { callee := .value (.func 18), args := #[.tmp 19], argTypes := #[24] }, none⟩,
    ⟨some 21, .call { callee := .value (.func 17), args := #[.tmp 15, .tmp 17, .tmp 20], argTypes := #[29, 3, 39] }, none⟩,
    ⟨some 14, .move (.tmp 21), none⟩,
    ⟨some 22, .extract (.tmp 14) 0, none⟩,
    ⟨some 23, .extract (.tmp 14) 1, none⟩,
    ⟨some 24, .extract (.tmp 14) 2, none⟩,
    ⟨none, .store 29 (.tmp 6) (.tmp 22), none⟩,
    ⟨none, .store 35 (.tmp 7) (.tmp 23), none⟩,
    ⟨some 8, .assign (.tmp 24), none⟩], [(0, 5), (0, 6), (0, 7), (2, 5), (2, 6), (2, 7), (4, 5), (4, 6)]), ([⟨some 15, .load 29 (.tmp 5), none⟩,
    ⟨some 16, .fieldAddr 29 (.tmp 5) 0, none⟩,
    ⟨some 17, .load 3 (.tmp 16), none⟩,
    ⟨some 18, .fieldAddr 26 (.tmp 3) 0, none⟩,
    ⟨some 19, .load 24 (.tmp 18), none⟩,
    ⟨some 7, .alloc 35, none⟩,
    ⟨some 20, .call { callee := .value (.func 18), args := #[.tmp 19], argTypes := #[24] }, none⟩,
    ⟨some 21, .call { callee := .value (.func 17), args := #[.tmp 15, .tmp 17, .tmp 20], argTypes := #[29, 3, 39] }, none⟩,
    ⟨some 14, .move (.tmp 21), none⟩,
    ⟨some 22, .extract (.tmp 14) 0, none⟩,
    ⟨some 23, .extract (.tmp 14) 1, none⟩,
    ⟨some 24, .extract (.tmp 14) 2, none⟩,
    ⟨some 6, .alloc 29, none⟩,
    ⟨none, .store 29 (.tmp 6) (.tmp 22), none⟩,
    ⟨none, .store 35 (.tmp 7) (.tmp 23), none⟩,
    ⟨some 8, .assign (.tmp 24), none⟩], [(0, 5), (0, 6), (0, 12), (2, 5), (2, 6), (2, 12), (4, 5), (4, 12)]), ([⟨some 15, .load 29 (.tmp 5), none⟩,
    ⟨some 16, .fieldAddr 29 (.tmp 5) 0, none⟩,
    ⟨some 17, .load 3 (.tmp 16), none⟩,
    ⟨some 18, .fieldAddr 26 (.tmp 3) 0, none⟩,
    ⟨some 19, .load 24 (.tmp 18), none⟩,
    ⟨some 7, .alloc 35, none⟩,
    ⟨some 20, .call { callee := .value (.func 18), args := #[.tmp 19], argTypes := #[24] }, none⟩,
    ⟨some 6, .alloc 29, none⟩,
    ⟨some 21, .call { callee := .value (.func 17), args := #[.tmp 15, .tmp 17, .tmp 20], argTypes := #[29, 3, 39] }, none⟩,
    ⟨some 14, .move (.tmp 21), none⟩,
    ⟨some 22, .extract (.tmp 14) 0, none⟩,
    ⟨some 23, .extract (.tmp 14) 1, none⟩,
    ⟨some 24, .extract (.tmp 14) 2, none⟩,
    ⟨none, .store 29 (.tmp 6) (.tmp 22), none⟩,
    ⟨none, .store 35 (.tmp 7) (.tmp 23), none⟩,
    ⟨some 8, .assign (.tmp 24), none⟩], [(0, 5), (0, 6), (0, 7), (2, 5), (2, 6), (2, 7), (4, 5), (4, 7)]), ([⟨some 15, .load 29 (.tmp 5), none⟩,
    ⟨some 16, .fieldAddr 29 (.tmp 5) 0, none⟩,
    ⟨some 17, .load 3 (.tmp 16), none⟩,
    ⟨some 18, .fieldAddr 26 (.tmp 3) 0, none⟩,
    ⟨some 19, .load 24 (.tmp 18), none⟩,
    ⟨some 7, .alloc 35, none⟩,
    ⟨some 6, .alloc 29, none⟩,
    ⟨some 20, .call { callee := .value (.func 18), args := #[.tmp 19], argTypes := #[24] }, none⟩,
    ⟨some 21, .call { callee := .value (.func 17), args := #[.tmp 15, .tmp 17, .tmp 20], argTypes := #[29, 3, 39] }, none⟩,
    ⟨some 14, .move (.tmp 21), none⟩,
    ⟨some 22, .extract (.tmp 14) 0, none⟩,
    ⟨some 23, .extract (.tmp 14) 1, none⟩,
    ⟨some 24, .extract (.tmp 14) 2, none⟩,
    ⟨none, .store 29 (.tmp 6) (.tmp 22), none⟩,
    ⟨none, .store 35 (.tmp 7) (.tmp 23), none⟩,
    ⟨some 8, .assign (.tmp 24), none⟩], [(0, 5), (0, 6), (0, 7), (2, 5), (2, 6), (2, 7), (4, 5), (4, 6)])]) (.seq (.reg [⟨some 26, .load 29 (.tmp 5), none⟩,
    ⟨some 27, .fieldAddr 29 (.tmp 5) 0, none⟩,
    ⟨some 28, .load 3 (.tmp 27), none⟩,
    ⟨some 29, .build 39 #[(0, .const (.int .i64 20)), (1, .const (.string { data := #[97] })), (4, .const (.int .i64 (-1)))], none⟩,
    ⟨some 30, .call { callee := .value (.func 17), args := #[.tmp 26, .tmp 28, .tmp 29], argTypes := #[29, 3, 39] }, none⟩,
    ⟨some 25, .move (.tmp 30), none⟩,
    ⟨some 31, .extract (.tmp 25) 0, none⟩,
    ⟨some 32, .extract (.tmp 25) 1, none⟩,
    ⟨some 33, .extract (.tmp 25) 2, none⟩,
    ⟨some 9, .alloc 29, none⟩,
    ⟨some 10, .alloc 35, none⟩,
    ⟨none, .store 29 (.tmp 9) (.tmp 31), none⟩,
    ⟨none, .store 35 (.tmp 10) (.tmp 32), none⟩,
    ⟨some 11, .assign (.tmp 33), none⟩]) (.seq (.seq (.reg [⟨some 34, .move (.tmp 8), none⟩,
    ⟨some 35, .binOp .neq 32 (.tmp 34) (.const (.int .i64 0)) 32, none⟩,
    ⟨some 36, .move (.tmp 35), none⟩,
    ⟨some 37, .move (.tmp 11), some (36, false)⟩,
    ⟨some 38, .binOp .neq 32 (.tmp 37) (.const (.int .i64 0)) 32, some (36, false)⟩,
    ⟨some 39, .pick (.tmp 36) (.const (.bool true)) (.tmp 38), none⟩,
    ⟨some 40, .move (.tmp 39), none⟩,
    ⟨some 41, .fieldAddr 35 (.tmp 10) 0, some (40, false)⟩,
    ⟨some 42, .load 32 (.tmp 41), some (40, false)⟩,
    ⟨some 43, .binOp .eql 32 (.tmp 42) (.const (.int .i64 0)) 32, some (40, false)⟩,
    ⟨some 44, .pick (.tmp 40) (.const (.bool true)) (.tmp 43), none⟩]) (.cond (.tmp 44) (.seq (.reg [⟨some 4, .assign (.const (.bool false)), none⟩]) .ret) .skip)) (.seq (.reg [⟨some 45, .fieldAddr 35 (.tmp 7) 0, none⟩,
    ⟨some 46, .load 32 (.tmp 45), none⟩,
    ⟨some 47, .binOp .eql 32 (.tmp 46) (.const (.int .i64 0)) 32, none⟩,
    ⟨some 48, .move (.tmp 47), none⟩,
    ⟨some 49, .load 29 (.tmp 5), some (48, false)⟩,
    ⟨some 50, .load 29 (.tmp 6), some (48, false)⟩,
    ⟨some 51, .call { callee := .value (.func 25), args := #[.tmp 49, .tmp 50], argTypes := #[29, 29] }, some (48, false)⟩,
    ⟨some 52, .move (.tmp 51), some (48, false)⟩,
    ⟨some 53, .fieldAddr 35 (.tmp 7) 1, some (52, true)⟩,
    ⟨some 54, .load 9 (.tmp 53), some (52, true)⟩,
    ⟨some 55, .binOp .eql 9 (.tmp 54) (.const (.string { data := #[] })) 9, some (52, true)⟩,
    ⟨some 56, .pick (.tmp 52) (.tmp 55) (.const (.bool false)), some (48, false)⟩,
    ⟨some 57, .move (.tmp 56), some (48, false)⟩,
    ⟨some 58, .fieldAddr 35 (.tmp 7) 2, some (57, true)⟩,
    ⟨some 59, .load 3 (.tmp 58), some (57, true)⟩,
    ⟨some 60, .binOp .eql 3 (.tmp 59) (.const (.int .i64 0)) 3, some (57, true)⟩,
    ⟨some 61, .pick (.tmp 57) (.tmp 60) (.const (.bool false)), some (48, false)⟩,
    ⟨some 62, .move (.tmp 61), some (48, false)⟩,
    ⟨some 63, .fieldAddr 35 (.tmp 7) 3, some (62, true)⟩,
    ⟨some 64, .load 33 (.tmp 63), some (62, true)⟩,
    ⟨some 65, .call { callee := .builtin .len, args := #[.tmp 64], argTypes := #[33] }, some (62, true)⟩,
    ⟨some 66, .binOp .eql 3 (.tmp 65) (.const (.int .i64 0)) 3, some (62, true)⟩,
    ⟨some 67, .pick (.tmp 62) (.tmp 66) (.const (.bool false)), some (48, false)⟩,
    ⟨some 68, .pick (.tmp 48) (.const (.bool true)) (.tmp 67), none⟩,
    ⟨some 4, .assign (.tmp 68), none⟩]) .ret)))))
theorem rs_rostrumkeep_FailKeeps : Try.f11.results.toList = [.tmp 4] := rfl
theorem ok_rostrumkeep_FailKeeps : Try.f11.body.bind (comp Try.f11.ntmps) = some ac_rostrumkeep_FailKeeps := by kernel_rfl
variable {G : Nat → AV}
theorem exp_bad (now : Int) (l : List Ent) : ∃ e, (e = 5 ∨ e = 2) ∧ doE now l (expC aK (-1)) = (l, failR e) := by
  have hd : doE now l (expC aK (-1)) = timedE now l (expC aK (-1)) := by
    unfold doE
    rw [if_neg (by show (20 : Int) ≠ 22; omega), if_neg (by show (20 : Int) ≠ 19; omega), if_pos (.inl rfl)]
  rw [hd]
  unfold timedE
  split
  · exact ⟨5, .inl rfl, rfl⟩
  · rw [if_neg (by show (20 : Int) ≠ 21; omega), if_pos (.inl (by show (-1 : Int) < 1; omega))]
    exact ⟨2, .inr rfl, rfl⟩
theorem failKeeps_c (l : List Stp) (x : Stp) (hl : ∀ x ∈ l, x.Ok) (hll : (l.length : Int) ≤ 9223372036854775807) (hx : x.Ok) : PCall Try.prog G 11 [.one (.v (.sl (l.map Stp.row))), .agg x.c] (bV true) := by
  have hst := storeK_c (G := G) l hl hll
  obtain ⟨hs, hs2⟩ := storeV_ok l hl
  generalize storeV l = s at *
  have hcm := commandR_c (G := G) x.raw hx.raw
  have hc := cmdR_ok hx.raw
  have hk := cmdR_key x.raw
  generalize cmdR x.raw = c at *
  obtain ⟨e1, o1⟩ := apply_nowT hs hc hk
  have hf := fail_keeps hs hc hk
  obtain ⟨er, her, hbad⟩ := exp_bad s.now s.ents
  obtain ⟨e2, o2⟩ := apply_nowT hs (expC_ok aK_ok (n := -1) rfl) (.inr aK_nine)
  rw [hbad] at e2
  have h1 := apply_c (G := G) s s.now c hs.ok.small
  have h2 := apply_c (G := G) s s.now (expC aK (-1)) hs.ok.small
  have h3 := sameStore_c (G := G) s s hs.ok.small
  rw [e1] at h1
  rw [e2] at h2
  obtain ⟨now, ents⟩ := s
  simp only at *
  generalize doE now ents c = d at *
  obtain ⟨l1, r⟩ := d
  simp only at hf
  obtain ⟨⟨xk, xkey, xf, xn, xt⟩, xw⟩ := x
  have q5 : (er == (0 : Int)) = false := by rcases her with h | h <;> subst h <;> rfl
  rcases hf with hf | ⟨e, hf⟩
  · have q0 : (r.code == (0 : Int)) = true := by rw [hf]; rfl
    simp only [ApA, Sto.c, Cmd.c, Rep.c, expC, failR, aK, decide_true, Stp.c] at h1 h2 h3 hst hcm ⊢
    refine pcall mixed Try.func11 ok_rostrumkeep_FailKeeps rs_rostrumkeep_FailKeeps (by simp [Try.f11]) ?_
    unfold ac_rostrumkeep_FailKeeps
    repeat' (first | (with_reducible first | refine Cnd.intro (fun h => ?_) (fun h => ?_) | refine And.intro ?_ ?_ | refine Wk.refl ?_ | exact Weak.refl _ _ | refine weak_autoC ?_ | apply awp_join) | ((try with_reducible refine CallZ.l ?_); with_reducible refine qcf (by first | exact hst | exact hcm | exact h1 | exact h2 | exact h3) ?_ ?_) | ((try with_reducible refine CallZ.l ?_); with_reducible refine qcn (by first | exact qkc hst (by with_unfolding_all rfl) | exact qkc hcm (by with_unfolding_all rfl) | exact qkc h1 (by with_unfolding_all rfl) | exact qkc h2 (by with_unfolding_all rfl) | exact qkc h3 (by with_unfolding_all rfl)) ?_) | ((with_reducible refine qcz (by first | exact qkz hst (by with_unfolding_all rfl) | exact qkz hcm (by with_unfolding_all rfl) | exact qkz h1 (by with_unfolding_all rfl) | exact qkz h2 (by with_unfolding_all rfl) | exact qkz h3 (by with_unfolding_all rfl)) ?_); intro zh1 zq1; (try simp -dsimp [go_sem] at zq1); obtain ⟨rfl⟩ := zq1) | (with_reducible refine CallZ.z ?_) | simp -dsimp [go_sem, q0, q5, clean_nil, clean_cons, clean_yes, clean_no])
    all_goals trace_state
  · obtain ⟨rfl, rfl⟩ := Prod.mk.inj hf
    simp only [ApA, Sto.c, Cmd.c, Rep.c, expC, failR, aK, decide_true, Stp.c] at h1 h2 h3 hst hcm ⊢
    by_cases h0 : e = 0
    · have q0 : (e == (0 : Int)) = true := by simpa using h0
      refine pcall mixed Try.func11 ok_rostrumkeep_FailKeeps rs_rostrumkeep_FailKeeps (by simp [Try.f11]) ?_
      unfold ac_rostrumkeep_FailKeeps
      repeat' (first | (with_reducible first | refine Cnd.intro (fun h => ?_) (fun h => ?_) | refine And.intro ?_ ?_ | refine Wk.refl ?_ | exact Weak.refl _ _ | refine weak_autoC ?_ | apply awp_join) | ((try with_reducible refine CallZ.l ?_); with_reducible refine qcf (by first | exact hst | exact hcm | exact h1 | exact h2 | exact h3) ?_ ?_) | ((try with_reducible refine CallZ.l ?_); with_reducible refine qcn (by first | exact qkc hst (by with_unfolding_all rfl) | exact qkc hcm (by with_unfolding_all rfl) | exact qkc h1 (by with_unfolding_all rfl) | exact qkc h2 (by with_unfolding_all rfl) | exact qkc h3 (by with_unfolding_all rfl)) ?_) | ((with_reducible refine qcz (by first | exact qkz hst (by with_unfolding_all rfl) | exact qkz hcm (by with_unfolding_all rfl) | exact qkz h1 (by with_unfolding_all rfl) | exact qkz h2 (by with_unfolding_all rfl) | exact qkz h3 (by with_unfolding_all rfl)) ?_); intro zh1 zq1; (try simp -dsimp [go_sem] at zq1); obtain ⟨rfl⟩ := zq1) | (with_reducible refine CallZ.z ?_) | simp -dsimp [go_sem, q0, q5, clean_nil, clean_cons, clean_yes, clean_no])
      all_goals trace_state
    · have q0 : (e == (0 : Int)) = false := by simpa using h0
      refine pcall mixed Try.func11 ok_rostrumkeep_FailKeeps rs_rostrumkeep_FailKeeps (by simp [Try.f11]) ?_
      unfold ac_rostrumkeep_FailKeeps
      repeat' (first | (with_reducible first | refine Cnd.intro (fun h => ?_) (fun h => ?_) | refine And.intro ?_ ?_ | refine Wk.refl ?_ | exact Weak.refl _ _ | refine weak_autoC ?_ | apply awp_join) | ((try with_reducible refine CallZ.l ?_); with_reducible refine qcf (by first | exact hst | exact hcm | exact h1 | exact h2 | exact h3) ?_ ?_) | ((try with_reducible refine CallZ.l ?_); with_reducible refine qcn (by first | exact qkc hst (by with_unfolding_all rfl) | exact qkc hcm (by with_unfolding_all rfl) | exact qkc h1 (by with_unfolding_all rfl) | exact qkc h2 (by with_unfolding_all rfl) | exact qkc h3 (by with_unfolding_all rfl)) ?_) | ((with_reducible refine qcz (by first | exact qkz hst (by with_unfolding_all rfl) | exact qkz hcm (by with_unfolding_all rfl) | exact qkz h1 (by with_unfolding_all rfl) | exact qkz h2 (by with_unfolding_all rfl) | exact qkz h3 (by with_unfolding_all rfl)) ?_); intro zh1 zq1; (try simp -dsimp [go_sem] at zq1); obtain ⟨rfl⟩ := zq1) | (with_reducible refine CallZ.z ?_) | simp -dsimp [go_sem, q0, q5, clean_nil, clean_cons, clean_yes, clean_no])
      all_goals trace_state
end Go.Proofs.Ytmaiphnabebplaa
