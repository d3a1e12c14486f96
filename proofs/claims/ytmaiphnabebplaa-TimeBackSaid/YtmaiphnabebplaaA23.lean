/- TimeBack: the walk. -/
import Derived.Test.YtmaiphnabebplaaA15
import Derived.Test.YtmaiphnabebplaaG0
set_option linter.unusedVariables false
set_option linter.unusedSimpArgs false
set_option maxRecDepth 100000
set_option maxHeartbeats 8000000
namespace Go.Proofs.Ytmaiphnabebplaa
open Go Go.RowKit Go.Proofs.AE
def ac_rostrumkeep_TimeBack : ACode := .seq (.reg [⟨some 4, .box 26 (.tmp 1), none⟩,
    ⟨some 6, .assign (.const (.bool false)), none⟩]) (.seq (.reg [⟨some 15, .move (.tmp 0), none⟩,
    ⟨some 16, .move (.tmp 0), none⟩,
    ⟨some 17, .call { callee := .builtin .len, args := #[.tmp 16], argTypes := #[22] }, none⟩,
    ⟨some 18, .call { callee := .builtin .min, args := #[.tmp 17, .const (.int .i64 30)], argTypes := #[3, 3] }, none⟩,
    ⟨some 19, .slice 22 (.tmp 15) none (some (.tmp 18)) none, none⟩,
    ⟨some 20, .call { callee := .builtin .append, args := #[.const (.slice none 0 0), .tmp 19], argTypes := #[22, 22] }, none⟩,
    ⟨some 21, .build 26 #[(1, .const (.int .i64 9))], none⟩,
    ⟨some 22, .buildSlice 22 1 #[(0, .tmp 21)], none⟩,
    ⟨some 23, .call { callee := .builtin .append, args := #[.tmp 20, .tmp 22], argTypes := #[22, 22] }, none⟩,
    ⟨some 24, .call { callee := .value (.func 15), args := #[.tmp 23], argTypes := #[22] }, none⟩,
    ⟨some 7, .alloc 29, none⟩,
    ⟨none, .store 29 (.tmp 7) (.tmp 24), none⟩]) (.seq (.reg [⟨some 25, .fieldAddr 26 (.tmp 4) 0, none⟩,
    ⟨some 26, .load 24 (.tmp 25), none⟩,
    ⟨some 27, .call { callee := .value (.func 18), args := #[.tmp 26], argTypes := #[24] }, none⟩,
    ⟨some 8, .alloc 39, none⟩,
    ⟨none, .store 39 (.tmp 8) (.tmp 27), none⟩]) (.seq (.reg [⟨some 29, .load 29 (.tmp 7), none⟩,
    ⟨some 30, .fieldAddr 29 (.tmp 7) 0, none⟩,
    ⟨some 31, .load 3 (.tmp 30), none⟩,
    ⟨some 32, .load 39 (.tmp 8), none⟩,
    ⟨some 33, .call { callee := .value (.func 17), args := #[.tmp 29, .tmp 31, .tmp 32], argTypes := #[29, 3, 39] }, none⟩,
    ⟨some 28, .move (.tmp 33), none⟩,
    ⟨some 34, .extract (.tmp 28) 0, none⟩,
    ⟨some 35, .extract (.tmp 28) 1, none⟩,
    ⟨some 36, .extract (.tmp 28) 2, none⟩,
    ⟨some 9, .alloc 29, none⟩,
    ⟨some 10, .alloc 35, none⟩,
    ⟨none, .store 29 (.tmp 9) (.tmp 34), none⟩,
    ⟨none, .store 35 (.tmp 10) (.tmp 35), none⟩,
    ⟨some 11, .assign (.tmp 36), none⟩]) (.seq (.regD [([⟨some 38, .load 29 (.tmp 7), none⟩,
    ⟨some 39, .fieldAddr 29 (.tmp 7) 0, none⟩,
    ⟨some 40, .load 3 (.tmp 39), none⟩,
    ⟨some 41, .move (.tmp 2), none⟩,
    ⟨some 42, .fieldAddr 29 (.tmp 7) 0, none⟩,
    ⟨some 43, .load 3 (.tmp 42), none⟩,
    ⟨some 44, .binOp .add 3 (.tmp 43) (.const (.int .i64 1)) 3, none⟩,
    ⟨some 45, .call { callee := .value (.func 16), args := #[.tmp 41, .tmp 44], argTypes := #[3, 3] }, none⟩,
    ⟨some 46, .binOp .sub 3 (.tmp 40) (.tmp 45) 3, none⟩,
    ⟨some 47, .load 39 (.tmp 8), none⟩,
    ⟨some 48, .call { callee := .value (.func 17), args := #[.tmp 38, .tmp 46, .tmp 47], argTypes := #[29, 3, 39] }, none⟩,
    ⟨some 37, .move (.tmp 48), none⟩,
    ⟨some 49, .extract (.tmp 37) 0, none⟩,
    ⟨some 50, .extract (.tmp 37) 1, none⟩,
    ⟨some 51, .extract (.tmp 37) 2, none⟩,
    ⟨some 12, .alloc 29, none⟩,
    ⟨some 13, .alloc 35, none⟩,
    ⟨none, .store 29 (.tmp 12) (.tmp 49), none⟩,
    ⟨none, .store 35 (.tmp 13) (.tmp 50), none⟩,
    ⟨some 14, .assign (.tmp 51), none⟩], [(0, 7), (0, 15), (0, 16), (2, 7), (2, 15), (2, 16), (5, 15), (5, 16), (9, 7), (9, 15), (9, 16)]), ([⟨some 38, .load 29 (.tmp 7), none⟩,
    ⟨some 39, .fieldAddr 29 (.tmp 7) 0, none⟩,
    ⟨some 40, .load 3 (.tmp 39), none⟩,
    ⟨some 41, .move (.tmp 2), none⟩,
    ⟨some 42, .fieldAddr 29 (.tmp 7) 0, none⟩,
    ⟨some 43, .load 3 (.tmp 42), none⟩,
    ⟨some 44, .binOp .add 3 (.tmp 43) (.const (.int .i64 1)) 3, none⟩,
    ⟨some 45, .call { callee := .value (.func 16), args := #[.tmp 41, .tmp 44], argTypes := #[3, 3] }, none⟩,
    ⟨some 46, .binOp .sub 3 (.tmp 40) (.tmp 45) 3, none⟩,
    ⟨some 47, .load 39 (.tmp 8), none⟩,
    ⟨some 48, .call { callee := .value (.func 17), args := #[.tmp 38, .tmp 46, .tmp 47], argTypes := #[29, 3, 39] }, none⟩,
    ⟨some 37, .move (.tmp 48), none⟩,
    ⟨some 49, .extract (.tmp 37) 0, none⟩,
    ⟨some 50, .extract (.tmp 37) 1, none⟩,
    ⟨some 51, .extract (.tmp 37) 2, none⟩,
    ⟨some 13, .alloc 35, none⟩,
    ⟨some 12, .alloc 29, none⟩,
    ⟨none, .store 29 (.tmp 12) (.tmp 49), none⟩,
    ⟨none, .store 35 (.tmp 13) (.tmp 50), none⟩,
    ⟨some 14, .assign (.tmp 51), none⟩], [(0, 7), (0, 15), (0, 16), (2, 7), (2, 15), (2, 16), (5, 15), (5, 16), (9, 7), (9, 15), (9, 16)]), ([⟨some 38, .load 29 (.tmp 7), none⟩,
    ⟨some 39, .fieldAddr 29 (.tmp 7) 0, none⟩,
    ⟨some 40, .load 3 (.tmp 39), none⟩,
    ⟨some 41, .move (.tmp 2), none⟩,
    ⟨some 42, .fieldAddr 29 (.tmp 7) 0, none⟩,
    ⟨some 43, .load 3 (.tmp 42), none⟩,
    ⟨some 44, .binOp .add 3 (.tmp 43) (.const (.int .i64 1)) 3, none⟩,
    ⟨some 45, .call { callee := .value (.func 16), args := #[.tmp 41, .tmp 44], argTypes := #[3, 3] }, none⟩,
    ⟨some 46, .binOp .sub 3 (.tmp 40) (.tmp 45) 3, none⟩,
    ⟨some 47, .load 39 (.tmp 8), none⟩,
    ⟨some 12, .alloc 29, none⟩,
    ⟨some 48, .call { callee := .value (.func 17), args := #[.tmp 38, .tmp 46, .tmp 47], argTypes := #[29, 3, 39] }, none⟩,
    ⟨some 37, .move (.tmp 48), none⟩,
    ⟨some 49, .extract (.tmp 37) 0, none⟩,
    ⟨some 50, .extract (.tmp 37) 1, none⟩,
    ⟨some 51, .extract (.tmp 37) 2, none⟩,
    ⟨some 13, .alloc 35, none⟩,
    ⟨none, .store 29 (.tmp 12) (.tmp 49), none⟩,
    ⟨none, .store 35 (.tmp 13) (.tmp 50), none⟩,
    ⟨some 14, .assign (.tmp 51), none⟩], [(0, 7), (0, 10), (0, 16), (2, 7), (2, 10), (2, 16), (5, 10), (5, 16), (9, 7), (9, 10), (9, 16)]), ([⟨some 38, .load 29 (.tmp 7), none⟩,
    ⟨some 39, .fieldAddr 29 (.tmp 7) 0, none⟩,
    ⟨some 40, .load 3 (.tmp 39), none⟩,
    ⟨some 41, .move (.tmp 2), none⟩,
    ⟨some 42, .fieldAddr 29 (.tmp 7) 0, none⟩,
    ⟨some 43, .load 3 (.tmp 42), none⟩,
    ⟨some 44, .binOp .add 3 (.tmp 43) (.const (.int .i64 1)) 3, none⟩,
    ⟨some 45, .call { callee := .value (.func 16), args := #[.tmp 41, .tmp 44], argTypes := #[3, 3] }, none⟩,
    ⟨some 46, .binOp .sub 3 (.tmp 40) (.tmp 45) 3, none⟩,
    ⟨some 47, .load 39 (.tmp 8), none⟩,
    ⟨some 12, .alloc 29, none⟩,
    ⟨some 13, .alloc 35, none⟩,
    ⟨some 48, .call { callee := .value (.func 17), args := #[.tmp 38, .tmp 46, .tmp 47], argTypes := #[29, 3, 39] }, none⟩,
    ⟨some 37, .move (.tmp 48), none⟩,
    ⟨some 49, .extract (.tmp 37) 0, none⟩,
    ⟨some 50, .extract (.tmp 37) 1, none⟩,
    ⟨some 51, .extract (.tmp 37) 2, none⟩,
    ⟨none, .store 29 (.tmp 12) (.tmp 49), none⟩,
    ⟨none, .store 35 (.tmp 13) (.tmp 50), none⟩,
    ⟨some 14, .assign (.tmp 51), none⟩], [(0, 7), (0, 10), (0, 11), (2, 7), (2, 10), (2, 11), (5, 10), (5, 11), (9, 7), (9, 10), (9, 11)]), ([⟨some 38, .load 29 (.tmp 7), none⟩,
    ⟨some 39, .fieldAddr 29 (.tmp 7) 0, none⟩,
    ⟨some 40, .load 3 (.tmp 39), none⟩,
    ⟨some 41, .move (.tmp 2), none⟩,
    ⟨some 42, .fieldAddr 29 (.tmp 7) 0, none⟩,
    ⟨some 43, .load 3 (.tmp 42), none⟩,
    ⟨some 44, .binOp .add 3 (.tmp 43) (.const (.int .i64 1)) 3, none⟩,
    ⟨some 45, .call { callee := .value (.func 16), args := #[.tmp 41, .tmp 44], argTypes := #[3, 3] }, none⟩,
    ⟨some 46, .binOp .sub 3 (.tmp 40) (.tmp 45) 3, none⟩,
    ⟨some 47, .load 39 (.tmp 8), none⟩,
    ⟨some 13, .alloc 35, none⟩,
    ⟨some 48, .call { callee := .value (.func 17), args := #[.tmp 38, .tmp 46, .tmp 47], argTypes := #[29, 3, 39] }, none⟩,
    ⟨some 37, .move (.tmp 48), none⟩,
    ⟨some 49, .extract (.tmp 37) 0, none⟩,
    ⟨some 50, .extract (.tmp 37) 1, none⟩,
    ⟨some 51, .extract (.tmp 37) 2, none⟩,
    ⟨some 12, .alloc 29, none⟩,
    ⟨none, .store 29 (.tmp 12) (.tmp 49), none⟩,
    ⟨none, .store 35 (.tmp 13) (.tmp 50), none⟩,
    ⟨some 14, .assign (.tmp 51), none⟩], [(0, 7), (0, 10), (0, 16), (2, 7), (2, 10), (2, 16), (5, 10), (5, 16), (9, 7), (9, 10), (9, 16)]), ([⟨some 38, .load 29 (.tmp 7), none⟩,
    ⟨some 39, .fieldAddr 29 (.tmp 7) 0, none⟩,
    ⟨some 40, .load 3 (.tmp 39), none⟩,
    ⟨some 41, .move (.tmp 2), none⟩,
    ⟨some 42, .fieldAddr 29 (.tmp 7) 0, none⟩,
    ⟨some 43, .load 3 (.tmp 42), none⟩,
    ⟨some 44, .binOp .add 3 (.tmp 43) (.const (.int .i64 1)) 3, none⟩,
    ⟨some 45, .call { callee := .value (.func 16), args := #[.tmp 41, .tmp 44], argTypes := #[3, 3] }, none⟩,
    ⟨some 46, .binOp .sub 3 (.tmp 40) (.tmp 45) 3, none⟩,
    ⟨some 47, .load 39 (.tmp 8), none⟩,
    ⟨some 13, .alloc 35, none⟩,
    ⟨some 12, .alloc 29, none⟩,
    ⟨some 48, .call { callee := .value (.func 17), args := #[.tmp 38, .tmp 46, .tmp 47], argTypes := #[29, 3, 39] }, none⟩,
    ⟨some 37, .move (.tmp 48), none⟩,
    ⟨some 49, .extract (.tmp 37) 0, none⟩,
    ⟨some 50, .extract (.tmp 37) 1, none⟩,
    ⟨some 51, .extract (.tmp 37) 2, none⟩,
    ⟨none, .store 29 (.tmp 12) (.tmp 49), none⟩,
    ⟨none, .store 35 (.tmp 13) (.tmp 50), none⟩,
    ⟨some 14, .assign (.tmp 51), none⟩], [(0, 7), (0, 10), (0, 11), (2, 7), (2, 10), (2, 11), (5, 10), (5, 11), (9, 7), (9, 10), (9, 11)]), ([⟨some 38, .load 29 (.tmp 7), none⟩,
    ⟨some 39, .fieldAddr 29 (.tmp 7) 0, none⟩,
    ⟨some 40, .load 3 (.tmp 39), none⟩,
    ⟨some 41, .move (.tmp 2), none⟩,
    ⟨some 42, .fieldAddr 29 (.tmp 7) 0, none⟩,
    ⟨some 43, .load 3 (.tmp 42), none⟩,
    ⟨some 44, .binOp .add 3 (.tmp 43) (.const (.int .i64 1)) 3, none⟩,
    ⟨some 47, .load 39 (.tmp 8), none⟩,
    ⟨some 12, .alloc 29, none⟩,
    ⟨some 45, .call { callee := .value (.func 16), args := #[.tmp 41, .tmp 44], argTypes := #[3, 3] }, none⟩,
    ⟨some 46, .binOp .sub 3 (.tmp 40) (.tmp 45) 3, none⟩,
    ⟨some 48, .call { callee := .value (.func 17), args := #[.tmp 38, .tmp 46, .tmp 47], argTypes := #[29, 3, 39] }, none⟩,
    ⟨some 37, .move (.tmp 48), none⟩,
    ⟨some 49, .extract (.tmp 37) 0, none⟩,
    ⟨some 50, .extract (.tmp 37) 1, none⟩,
    ⟨some 51, .extract (.tmp 37) 2, none⟩,
    ⟨some 13, .alloc 35, none⟩,
    ⟨none, .store 29 (.tmp 12) (.tmp 49), none⟩,
    ⟨none, .store 35 (.tmp 13) (.tmp 50), none⟩,
    ⟨some 14, .assign (.tmp 51), none⟩], [(0, 8), (0, 9), (0, 16), (2, 8), (2, 9), (2, 16), (5, 8), (5, 16), (7, 8), (7, 9), (7, 16)]), ([⟨some 38, .load 29 (.tmp 7), none⟩,
    ⟨some 39, .fieldAddr 29 (.tmp 7) 0, none⟩,
    ⟨some 40, .load 3 (.tmp 39), none⟩,
    ⟨some 41, .move (.tmp 2), none⟩,
    ⟨some 42, .fieldAddr 29 (.tmp 7) 0, none⟩,
    ⟨some 43, .load 3 (.tmp 42), none⟩,
    ⟨some 44, .binOp .add 3 (.tmp 43) (.const (.int .i64 1)) 3, none⟩,
    ⟨some 47, .load 39 (.tmp 8), none⟩,
    ⟨some 12, .alloc 29, none⟩,
    ⟨some 45, .call { callee := .value (.func 16), args := #[.tmp 41, .tmp 44], argTypes := #[3, 3] }, none⟩,
    ⟨some 46, .binOp .sub 3 (.tmp 40) (.tmp 45) 3, none⟩,
    ⟨some 13, .alloc 35, none⟩,
    ⟨some 48, .call { callee := .value (.func 17), args := #[.tmp 38, .tmp 46, .tmp 47], argTypes := #[29, 3, 39] }, none⟩,
    ⟨some 37, .move (.tmp 48), none⟩,
    ⟨some 49, .extract (.tmp 37) 0, none⟩,
    ⟨some 50, .extract (.tmp 37) 1, none⟩,
    ⟨some 51, .extract (.tmp 37) 2, none⟩,
    ⟨none, .store 29 (.tmp 12) (.tmp 49), none⟩,
    ⟨none, .store 35 (.tmp 13) (.tmp 50), none⟩,
    ⟨some 14, .assign (.tmp 51), none⟩], [(0, 8), (0, 9), (0, 11), (2, 8), (2, 9), (2, 11), (5, 8), (5, 11), (7, 8), (7, 9), (7, 11)]), ([⟨some 38, .load 29 (.tmp 7), none⟩,
    ⟨some 39, .fieldAddr 29 (.tmp 7) 0, none⟩,
    ⟨some 40, .load 3 (.tmp 39), none⟩,
    ⟨some 41, .move (.tmp 2), none⟩,
    ⟨some 42, .fieldAddr 29 (.tmp 7) 0, none⟩,
    ⟨some 43, .load 3 (.tmp 42), none⟩,
    ⟨some 44, .binOp .add 3 (.tmp 43) (.const (.int .i64 1)) 3, none⟩,
    ⟨some 47, .load 39 (.tmp 8), none⟩,
    ⟨some 12, .alloc 29, none⟩,
    ⟨some 13, .alloc 35, none⟩,
    ⟨some 45, .call { callee := .value (.func 16), args := #[.tmp 41, .tmp 44], argTypes := #[3, 3] }, none⟩,
    ⟨some 46, .binOp .sub 3 (.tmp 40) (.tmp 45) 3, none⟩,
    ⟨some 48, .call { callee := .value (.func 17), args := #[.tmp 38, .tmp 46, .tmp 47], argTypes := #[29, 3, 39] }, none⟩,
    ⟨some 37, .move (.tmp 48), none⟩,
    ⟨some 49, .extract (.tmp 37) 0, none⟩,
    ⟨some 50, .extract (.tmp 37) 1, none⟩,
    ⟨some 51, .extract (.tmp 37) 2, none⟩,
    ⟨none, .store 29 (.tmp 12) (.tmp 49), none⟩,
    ⟨none, .store 35 (.tmp 13) (.tmp 50), none⟩,
    ⟨some 14, .assign (.tmp 51), none⟩], [(0, 8), (0, 9), (0, 10), (2, 8), (2, 9), (2, 10), (5, 8), (5, 9), (7, 8), (7, 9), (7, 10)]), ([⟨some 38, .load 29 (.tmp 7), none⟩,
    ⟨some 39, .fieldAddr 29 (.tmp 7) 0, none⟩,
    ⟨some 40, .load 3 (.tmp 39), none⟩,
    ⟨some 41, .move (.tmp 2), none⟩,
    ⟨some 42, .fieldAddr 29 (.tmp 7) 0, none⟩,
    ⟨some 43, .load 3 (.tmp 42), none⟩,
    ⟨some 44, .binOp .add 3 (.tmp 43) (.const (.int .i64 1)) 3, none⟩,
    ⟨some 47, .load 39 (.tmp 8), none⟩,
    ⟨some 13, .alloc 35, none⟩,
    ⟨some 45, .call { callee := .value (.func 16), args := #[.tmp 41, .tmp 44], argTypes := #[3, 3] }, none⟩,
    ⟨some 46, .binOp .sub 3 (.tmp 40) (.tmp 45) 3, none⟩,
    ⟨some 48, .call { callee := .value (.func 17), args := #[.tmp 38, .tmp 46, .tmp 47], argTypes := #[29, 3, 39] }, none⟩,
    ⟨some 37, .move (.tmp 48), none⟩,
    ⟨some 49, .extract (.tmp 37) 0, none⟩,
    ⟨some 50, .extract (.tmp 37) 1, none⟩,
    ⟨some 51, .extract (.tmp 37) 2, none⟩,
    ⟨some 12, .alloc 29, none⟩,
    ⟨none, .store 29 (.tmp 12) (.tmp 49), none⟩,
    ⟨none, .store 35 (.tmp 13) (.tmp 50), none⟩,
    ⟨some 14, .assign (.tmp 51), none⟩], [(0, 8), (0, 9), (0, 16), (2, 8), (2, 9), (2, 16), (5, 8), (5, 16), (7, 8), (7, 9), (7, 16)]), ([⟨some 38, .load 29 (.tmp 7), none⟩,
    ⟨some 39, .fieldAddr 29 (.tmp 7) 0, none⟩,
    ⟨some 40, .load 3 (.tmp 39), none⟩,
    ⟨some 41, .move (.tmp 2), none⟩,
    ⟨some 42, .fieldAddr 29 (.tmp 7) 0, none⟩,
    ⟨some 43, .load 3 (.tmp 42), none⟩,
    ⟨some 44, .binOp .add 3 (.tmp 43) (.const (.int .i64 1)) 3, none⟩,
    ⟨some 47, .load 39 (.tmp 8), none⟩,
    ⟨some 13, .alloc 35, none⟩,
    ⟨some 45, .call { callee := .value (.func 16), args := #[.tmp 41, .tmp 44], argTypes := #[3, 3] }, none⟩,
    ⟨some 46, .binOp .sub 3 (.tmp 40) (.tmp 45) 3, none⟩,
    ⟨some 12, .alloc 29, none⟩,
    ⟨some 48, .call { callee := .value (.func 17), args := #[.tmp 38, .tmp 46, .tmp 47], argTypes := #[29, 3, 39] }, none⟩,
    ⟨some 37, .move (.tmp 48), none⟩,
    ⟨some 49, .extract (.tmp 37) 0, none⟩,
    ⟨some 50, .extract (.tmp 37) 1, none⟩,
    ⟨some 51, .extract (.tmp 37) 2, none⟩,
    ⟨none, .store 29 (.tmp 12) (.tmp 49), none⟩,
    ⟨none, .store 35 (.tmp 13) (.tmp 50), none⟩,
    ⟨some 14, .assign (.tmp 51), none⟩], [(0, 8), (0, 9), (0, 11), (2, 8), (2, 9), (2, 11), (5, 8), (5, 11), (7, 8), (7, 9), (7, 11)]), ([⟨some 38, .load 29 (.tmp 7), none⟩,
    ⟨some 39, .fieldAddr 29 (.tmp 7) 0, none⟩,
    ⟨some 40, .load 3 (.tmp 39), none⟩,
    ⟨some 41, .move (.tmp 2), none⟩,
    ⟨some 42, .fieldAddr 29 (.tmp 7) 0, none⟩,
    ⟨some 43, .load 3 (.tmp 42), none⟩,
    ⟨some 44, .binOp .add 3 (.tmp 43) (.const (.int .i64 1)) 3, none⟩,
    ⟨some 47, .load 39 (.tmp 8), none⟩,
    ⟨some 13, .alloc 35, none⟩,
    ⟨some 12, .alloc 29, none⟩,
    ⟨some 45, .call { callee := .value (.func 16), args := #[.tmp 41, .tmp 44], argTypes := #[3, 3] }, none⟩,
    ⟨some 46, .binOp .sub 3 (.tmp 40) (.tmp 45) 3, none⟩,
    ⟨some 48, .call { callee := .value (.func 17), args := #[.tmp 38, .tmp 46, .tmp 47], argTypes := #[29, 3, 39] }, none⟩,
    ⟨some 37, .move (.tmp 48), none⟩,
    ⟨some 49, .extract (.tmp 37) 0, none⟩,
    ⟨some 50, .extract (.tmp 37) 1, none⟩,
    ⟨some 51, .extract (.tmp 37) 2, none⟩,
    ⟨none, .store 29 (.tmp 12) (.tmp 49), none⟩,
    ⟨none, .store 35 (.tmp 13) (.tmp 50), none⟩,
    ⟨some 14, .assign (.tmp 51), none⟩], [(0, 8), (0, 9), (0, 10), (2, 8), (2, 9), (2, 10), (5, 8), (5, 9), (7, 8), (7, 9), (7, 10)])]) (.seq (.reg [⟨some 52, .move (.tmp 11), none⟩,
    ⟨some 53, .binOp .eql 32 (.tmp 52) (.const (.int .i64 0)) 32, none⟩,
    ⟨some 54, .move (.tmp 53), none⟩,
    ⟨some 55, .move (.tmp 14), some (54, true)⟩,
    ⟨some 56, .binOp .eql 32 (.tmp 55) (.const (.int .i64 0)) 32, some (54, true)⟩,
    ⟨some 57, .pick (.tmp 54) (.tmp 56) (.const (.bool false)), none⟩,
    ⟨some 58, .move (.tmp 57), none⟩,
    ⟨some 59, .load 35 (.tmp 10), some (58, true)⟩,
    ⟨some 60, .load 35 (.tmp 13), some (58, true)⟩,
    ⟨some 61, .call { callee := .value (.func 24), args := #[.tmp 59, .tmp 60], argTypes := #[35, 35] }, some (58, true)⟩,
    ⟨some 62, .pick (.tmp 58) (.tmp 61) (.const (.bool false)), none⟩,
    ⟨some 63, .move (.tmp 62), none⟩,
    ⟨some 64, .load 29 (.tmp 9), some (63, true)⟩,
    ⟨some 65, .load 29 (.tmp 12), some (63, true)⟩,
    ⟨some 66, .call { callee := .value (.func 25), args := #[.tmp 64, .tmp 65], argTypes := #[29, 29] }, some (63, true)⟩,
    ⟨some 67, .pick (.tmp 63) (.tmp 66) (.const (.bool false)), none⟩,
    ⟨some 68, .move (.tmp 67), none⟩,
    ⟨some 69, .fieldAddr 29 (.tmp 7) 0, some (68, true)⟩,
    ⟨some 70, .load 3 (.tmp 69), some (68, true)⟩,
    ⟨some 71, .binOp .gtr 3 (.tmp 70) (.const (.int .i64 0)) 3, some (68, true)⟩,
    ⟨some 72, .pick (.tmp 68) (.tmp 71) (.const (.bool false)), none⟩,
    ⟨some 6, .assign (.tmp 72), none⟩]) .ret)))))
theorem rs_rostrumkeep_TimeBack : Try.f14.results.toList = [.tmp 6] := rfl
theorem ok_rostrumkeep_TimeBack : Try.f14.body.bind (comp Try.f14.ntmps) = some ac_rostrumkeep_TimeBack := by kernel_rfl
variable {G : Nat → AV}
theorem ul_t (l : List Stp) : UL 6 (l.map Stp.row) := by
  intro r hr
  obtain ⟨p, _, rfl⟩ := List.mem_map.1 hr
  rfl
theorem cutL (l : List Stp) (k : Nat) : ∃ m : Nat, (if (k : Int) < (l.length : Int) then (k : Int) else (l.length : Int)) = (m : Int) ∧ m ≤ l.length ∧ m ≤ k := by
  by_cases h : (k : Int) < (l.length : Int)
  · exact ⟨k, by rw [if_pos h], by omega, Nat.le_refl _⟩
  · exact ⟨l.length, by rw [if_neg h], Nat.le_refl _, by omega⟩
theorem timeBack_c (l : List Stp) (x : Stp) (n : Int) (hl : ∀ x ∈ l, x.Ok) (hll : (l.length : Int) ≤ 9223372036854775807) (hx : x.Ok) (hn : i64 n) : PCall Try.prog G 14 [.one (.v (.sl (l.map Stp.row))), .agg x.c, iV n] (bV true) := by
  have zi : i64 0 := ⟨by omega, by omega⟩
  have ni : i64 9 := ⟨by omega, by omega⟩
  obtain ⟨m, qm, m1, m2⟩ := cutL l 30
  have qm : (if (30 : Int) < (l.length : Int) then (30 : Int) else (l.length : Int)) = (m : Int) := qm
  have hl30 : ∀ y ∈ l.take m, y.Ok := fun y hy => hl y (List.mem_of_mem_take hy)
  have hx9 : (Stp.mk ⟨0, 0, 0, 0, ⟨#[]⟩⟩ 9).Ok := ⟨⟨zi, zi, zi, zi⟩, ni⟩
  have hlt := List.length_take_le m l
  have hlt2 : (l.take m).length = m := by rw [List.length_take]; omega
  have hl9 : ∀ y ∈ l.take m ++ [Stp.mk ⟨0, 0, 0, 0, ⟨#[]⟩⟩ 9], y.Ok := by
    intro y hy
    rcases List.mem_append.1 hy with h | h
    · exact hl30 y h
    · rw [List.mem_singleton.1 h]; exact hx9
  have hst := storeK_c (G := G) (l.take m ++ [Stp.mk ⟨0, 0, 0, 0, ⟨#[]⟩⟩ 9]) hl9 (by rw [List.length_append]; simp; omega)
  rw [List.map_append, List.map_take] at hst
  obtain ⟨hs, hs2⟩ := storeV_ok _ hl9
  have hpos : 0 < (storeV (l.take m ++ [Stp.mk ⟨0, 0, 0, 0, ⟨#[]⟩⟩ 9])).now := by
    obtain ⟨s0, m, g1, g2, g3, g4, g5, g6⟩ := storeV_last hl30 hx9 (by omega)
    rw [g5]
    obtain ⟨s', r, e, _, hm⟩ := apply_okT g1 (t := m + pk 9 12) (by rw [show pk 9 12 = 9 from rfl]; omega) (by rw [show pk 9 12 = 9 from rfl]; omega) (cmdR_ok hx9.raw) (cmdR_key _)
    rw [e]
    simp only
    rw [hm, show pk 9 12 = 9 from rfl]
    unfold maxI
    split <;> omega
  generalize storeV (l.take m ++ [Stp.mk ⟨0, 0, 0, 0, ⟨#[]⟩⟩ 9]) = s at *
  have hcm := commandR_c (G := G) x.raw hx.raw
  have hc := cmdR_ok hx.raw
  have hk := cmdR_key x.raw
  generalize cmdR x.raw = c at *
  have hp := pk_range (n := n) (m := s.now + 1) (by omega)
  have hpk := picked_c (G := G) n (s.now + 1) hn (by omega)
  generalize pk n (s.now + 1) = p at *
  obtain ⟨s', r, e1, o1, n1⟩ := apply_okT hs (t := s.now) (by omega) (by omega) hc hk
  have e2 : ApplyS s (s.now - p) c = (s', r, 0) := by
    rw [← e1]
    unfold ApplyS
    have m1 : maxI s.now s.now = s.now := by unfold maxI; split <;> omega
    have m2 : maxI s.now (s.now - p) = s.now := by unfold maxI; split <;> omega
    rw [m1, m2]
    have c1 : (s.now - p < 0 ∨ 1073741824 < s.now - p) = False := by simp; omega
    have c2 : (s.now < 0 ∨ 1073741824 < s.now) = False := by simp; omega
    simp only [c1, c2, if_false]
  have h1 := apply_c (G := G) s s.now c hs.ok.small
  have h2 := apply_c (G := G) s (s.now - p) c hs.ok.small
  have hr := (apply_okR hs.ok (t := s.now) (by omega) (by omega) hc).len
  rw [e1] at hr
  have h5 := sameReply_c (G := G) r r (Nat.le_trans hr (by omega))
  rw [e1] at h1
  rw [e2] at h2
  have h4 := sameStore_c (G := G) s' s' o1.ok.small
  have w1 : IntKind.i64.wrap (s.now + 1) = s.now + 1 := IntWalk.i64_in _ (by omega)
  have w2 : IntKind.i64.wrap (s.now - p) = s.now - p := IntWalk.i64_in _ (by omega)
  have q1 : decide (0 < s.now) = true := by simpa using hpos
  obtain ⟨now, ents⟩ := s
  obtain ⟨now', ents'⟩ := s'
  simp only at n1 w1 w2 q1
  obtain ⟨⟨xk, xkey, xf, xn, xt⟩, xw⟩ := x
  simp only [ApA, Sto.c, Cmd.c, Rep.c, toldR, List.map_append, List.map_cons, List.map_nil, Stp.c, Stp.row, decide_true, beq_self_eq_true, Bool.and_true] at h1 h2 h4 h5 hst hcm ⊢
  refine pcall mixed Try.func14 ok_rostrumkeep_TimeBack rs_rostrumkeep_TimeBack (by simp [Try.f14]) ?_
  unfold ac_rostrumkeep_TimeBack
  repeat' (first | (with_reducible first | refine Cnd.intro (fun h => ?_) (fun h => ?_) | refine And.intro ?_ ?_ | refine Wk.refl ?_ | exact Weak.refl _ _ | refine weak_autoC ?_ | apply awp_join) | ((try with_reducible refine CallZ.l ?_); with_reducible refine qcf (by first | exact hst | exact hcm | exact hpk | exact h1 | exact h2 | exact h4 | exact h5) ?_ ?_) | ((try with_reducible refine CallZ.l ?_); with_reducible refine qcn (by first | exact qkc hst (by with_unfolding_all rfl) | exact qkc hcm (by with_unfolding_all rfl) | exact qkc hpk (by with_unfolding_all rfl) | exact qkc h1 (by with_unfolding_all rfl) | exact qkc h2 (by with_unfolding_all rfl) | exact qkc h4 (by with_unfolding_all rfl) | exact qkc h5 (by with_unfolding_all rfl)) ?_) | ((with_reducible refine qcz (by first | exact qkz hst (by with_unfolding_all rfl) | exact qkz hcm (by with_unfolding_all rfl) | exact qkz hpk (by with_unfolding_all rfl) | exact qkz h1 (by with_unfolding_all rfl) | exact qkz h2 (by with_unfolding_all rfl) | exact qkz h4 (by with_unfolding_all rfl) | exact qkz h5 (by with_unfolding_all rfl)) ?_); intro zh1 zq1; (try simp -dsimp [go_sem] at zq1); obtain ⟨rfl⟩ := zq1) | (with_reducible refine CallZ.z ?_) | simp -dsimp [go_sem, w1, w2, q1, qm, clean_nil, clean_cons, clean_yes, clean_no])
  all_goals first | exact ul_t _ | (rw [← List.map_take]; exact ul_t _) | exact ul_one rfl | omega | trace_state
end Go.Proofs.Ytmaiphnabebplaa
