/- Facts of the translation, printed by gen.py (wip/ae): types by what the evaluator needs, the code of functions. -/
import Derived.Test.YtcfpphadlgbfdaaProg
import Derived.Test.YtcfpphadlgbfdaaAeRun
set_option maxRecDepth 100000
set_option maxHeartbeats 8000000
namespace Go.Proofs.Ytcfpphadlgbfdaa
open Go Go.RowKit Go.Proofs.AE

@[go_sem] theorem ti3 : tiOf Try.prog 3 = some ⟨.int .i64, 1, 8, [.lit (.int .i64 0)], []⟩ := by kernel_rfl
@[go_sem] theorem ti4 : tiOf Try.prog 4 = some ⟨.bool, 1, 1, [.lit (.bool false)], []⟩ := by kernel_rfl
@[go_sem] theorem ti5 : tiOf Try.prog 5 = some ⟨.int .u8, 1, 1, [.lit (.int .u8 0)], []⟩ := by kernel_rfl
@[go_sem] theorem ti9 : tiOf Try.prog 9 = some ⟨.string, 1, 16, [.lit (.string ⟨#[]⟩)], []⟩ := by kernel_rfl
@[go_sem] theorem ti22 : tiOf Try.prog 22 = some ⟨.slice 32, 1, 24, [.sl []], []⟩ := by kernel_rfl
@[go_sem] theorem ti23 : tiOf Try.prog 23 = some ⟨.slice 43, 1, 24, [.sl []], []⟩ := by kernel_rfl
@[go_sem] theorem ti24 : tiOf Try.prog 24 = some ⟨.slice 9, 1, 24, [.sl []], []⟩ := by kernel_rfl
@[go_sem] theorem ti25 : tiOf Try.prog 25 = some ⟨.slice 65, 1, 24, [.sl []], []⟩ := by kernel_rfl
@[go_sem] theorem ti27 : tiOf Try.prog 27 = some ⟨.struct [(3, 0), (9, 1), (3, 2), (23, 3), (24, 4), (25, 5)], 6, 104, [.lit (.int .i64 0), .lit (.string ⟨#[]⟩), .lit (.int .i64 0), .sl [], .sl [], .sl []], []⟩ := by kernel_rfl
@[go_sem] theorem ti28 : tiOf Try.prog 28 = none := by kernel_rfl
@[go_sem] theorem mt28 : mapTy Try.prog 28 = some (.string ⟨#[]⟩) := by kernel_rfl
@[go_sem] theorem ti29 : tiOf Try.prog 29 = some ⟨.slice 3, 1, 24, [.sl []], []⟩ := by kernel_rfl
@[go_sem] theorem ti32 : tiOf Try.prog 32 = some ⟨.struct [(3, 0), (3, 1), (3, 2), (3, 3), (9, 4)], 5, 48, [.lit (.int .i64 0), .lit (.int .i64 0), .lit (.int .i64 0), .lit (.int .i64 0), .lit (.string ⟨#[]⟩)], [.int .i64, .int .i64, .int .i64, .int .i64, .string]⟩ := by kernel_rfl
@[go_sem] theorem ti34 : tiOf Try.prog 34 = some ⟨.struct [(3, 0), (9, 1), (9, 2), (9, 3), (3, 4)], 5, 64, [.lit (.int .i64 0), .lit (.string ⟨#[]⟩), .lit (.string ⟨#[]⟩), .lit (.string ⟨#[]⟩), .lit (.int .i64 0)], [.int .i64, .string, .string, .string, .int .i64]⟩ := by kernel_rfl
@[go_sem] theorem ti37 : tiOf Try.prog 37 = some ⟨.int .i64, 1, 8, [.lit (.int .i64 0)], []⟩ := by kernel_rfl
@[go_sem] theorem ti39 : tiOf Try.prog 39 = some ⟨.struct [(37, 0), (9, 1), (3, 2), (24, 3)], 4, 56, [.lit (.int .i64 0), .lit (.string ⟨#[]⟩), .lit (.int .i64 0), .sl []], []⟩ := by kernel_rfl
@[go_sem] theorem ti43 : tiOf Try.prog 43 = some ⟨.struct [(9, 0), (9, 1)], 2, 32, [.lit (.string ⟨#[]⟩), .lit (.string ⟨#[]⟩)], [.string, .string]⟩ := by kernel_rfl
@[go_sem] theorem ti57 : tiOf Try.prog 57 = some ⟨.pointer 27, 1, 8, [.lit (.pointer none)], []⟩ := by kernel_rfl
@[go_sem] theorem ti58 : tiOf Try.prog 58 = some ⟨.slice 5, 1, 24, [.sl []], []⟩ := by kernel_rfl
@[go_sem] theorem ti59 : tiOf Try.prog 59 = some ⟨.other, 1, 8, [.lit .nilFunc], []⟩ := by kernel_rfl
@[go_sem] theorem ti62 : tiOf Try.prog 62 = some ⟨.other, 1, 8, [.lit .nilFunc], []⟩ := by kernel_rfl
@[go_sem] theorem ti65 : tiOf Try.prog 65 = some ⟨.struct [(9, 0), (3, 1)], 2, 24, [.lit (.string ⟨#[]⟩), .lit (.int .i64 0)], [.string, .int .i64]⟩ := by kernel_rfl
@[go_sem] theorem ti66 : tiOf Try.prog 66 = some ⟨.other, 1, 8, [.lit .nilFunc], []⟩ := by kernel_rfl
@[go_sem] theorem ti68 : tiOf Try.prog 68 = some ⟨.other, 1, 8, [.lit .nilFunc], []⟩ := by kernel_rfl
@[go_sem] theorem ti70 : tiOf Try.prog 70 = some ⟨.other, 1, 8, [.lit .nilFunc], []⟩ := by kernel_rfl
@[go_sem] theorem ti72 : tiOf Try.prog 72 = some ⟨.other, 1, 8, [.lit .nilFunc], []⟩ := by kernel_rfl
@[go_sem] theorem ti94 : tiOf Try.prog 94 = some ⟨.int .u64, 1, 8, [.lit (.int .u64 0)], []⟩ := by kernel_rfl
@[go_sem] theorem u8_5 : isU8 Try.prog 5 = true := by kernel_rfl
@[go_sem] theorem en3 : enters Try.prog 3 = true := by kernel_rfl
@[go_sem] theorem en4 : enters Try.prog 4 = true := by kernel_rfl
@[go_sem] theorem en5 : enters Try.prog 5 = true := by kernel_rfl
@[go_sem] theorem en6 : enters Try.prog 6 = true := by kernel_rfl
@[go_sem] theorem en7 : enters Try.prog 7 = true := by kernel_rfl
@[go_sem] theorem en8 : enters Try.prog 8 = true := by kernel_rfl
@[go_sem] theorem en9 : enters Try.prog 9 = true := by kernel_rfl
@[go_sem] theorem en10 : enters Try.prog 10 = true := by kernel_rfl
@[go_sem] theorem en11 : enters Try.prog 11 = true := by kernel_rfl
@[go_sem] theorem en12 : enters Try.prog 12 = true := by kernel_rfl
@[go_sem] theorem en13 : enters Try.prog 13 = true := by kernel_rfl
@[go_sem] theorem en14 : enters Try.prog 14 = true := by kernel_rfl
@[go_sem] theorem en15 : enters Try.prog 15 = true := by kernel_rfl
@[go_sem] theorem en16 : enters Try.prog 16 = true := by kernel_rfl
@[go_sem] theorem en17 : enters Try.prog 17 = true := by kernel_rfl
@[go_sem] theorem en18 : enters Try.prog 18 = true := by kernel_rfl
@[go_sem] theorem en19 : enters Try.prog 19 = true := by kernel_rfl
@[go_sem] theorem en20 : enters Try.prog 20 = true := by kernel_rfl
@[go_sem] theorem en21 : enters Try.prog 21 = true := by kernel_rfl
@[go_sem] theorem en22 : enters Try.prog 22 = true := by kernel_rfl
@[go_sem] theorem en23 : enters Try.prog 23 = true := by kernel_rfl
@[go_sem] theorem en24 : enters Try.prog 24 = true := by kernel_rfl
@[go_sem] theorem en25 : enters Try.prog 25 = true := by kernel_rfl
@[go_sem] theorem en26 : enters Try.prog 26 = true := by kernel_rfl
@[go_sem] theorem en27 : enters Try.prog 27 = true := by kernel_rfl
@[go_sem] theorem en28 : enters Try.prog 28 = true := by kernel_rfl
@[go_sem] theorem en29 : enters Try.prog 29 = true := by kernel_rfl
@[go_sem] theorem en30 : enters Try.prog 30 = true := by kernel_rfl
@[go_sem] theorem en31 : enters Try.prog 31 = true := by kernel_rfl
@[go_sem] theorem en32 : enters Try.prog 32 = true := by kernel_rfl
@[go_sem] theorem en33 : enters Try.prog 33 = true := by kernel_rfl
@[go_sem] theorem en34 : enters Try.prog 34 = true := by kernel_rfl
@[go_sem] theorem en35 : enters Try.prog 35 = true := by kernel_rfl
@[go_sem] theorem en36 : enters Try.prog 36 = true := by kernel_rfl
@[go_sem] theorem en37 : enters Try.prog 37 = true := by kernel_rfl
@[go_sem] theorem en38 : enters Try.prog 38 = true := by kernel_rfl
@[go_sem] theorem en39 : enters Try.prog 39 = true := by kernel_rfl
@[go_sem] theorem en40 : enters Try.prog 40 = true := by kernel_rfl
@[go_sem] theorem en41 : enters Try.prog 41 = true := by kernel_rfl
@[go_sem] theorem en42 : enters Try.prog 42 = true := by kernel_rfl
@[go_sem] theorem en43 : enters Try.prog 43 = true := by kernel_rfl
@[go_sem] theorem en44 : enters Try.prog 44 = true := by kernel_rfl
@[go_sem] theorem en45 : enters Try.prog 45 = true := by kernel_rfl
@[go_sem] theorem en46 : enters Try.prog 46 = true := by kernel_rfl
@[go_sem] theorem en47 : enters Try.prog 47 = true := by kernel_rfl
@[go_sem] theorem en48 : enters Try.prog 48 = true := by kernel_rfl
@[go_sem] theorem en49 : enters Try.prog 49 = true := by kernel_rfl
@[go_sem] theorem en50 : enters Try.prog 50 = true := by kernel_rfl
@[go_sem] theorem en51 : enters Try.prog 51 = true := by kernel_rfl
@[go_sem] theorem en52 : enters Try.prog 52 = true := by kernel_rfl
@[go_sem] theorem en53 : enters Try.prog 53 = true := by kernel_rfl
@[go_sem] theorem en54 : enters Try.prog 54 = true := by kernel_rfl
@[go_sem] theorem en55 : enters Try.prog 55 = true := by kernel_rfl
@[go_sem] theorem en56 : enters Try.prog 56 = true := by kernel_rfl
@[go_sem] theorem en57 : enters Try.prog 57 = true := by kernel_rfl
@[go_sem] theorem en58 : enters Try.prog 58 = true := by kernel_rfl
@[go_sem] theorem en59 : enters Try.prog 59 = true := by kernel_rfl
@[go_sem] theorem en60 : enters Try.prog 60 = true := by kernel_rfl
@[go_sem] theorem en61 : enters Try.prog 61 = true := by kernel_rfl
@[go_sem] theorem en62 : enters Try.prog 62 = true := by kernel_rfl
@[go_sem] theorem en63 : enters Try.prog 63 = true := by kernel_rfl
@[go_sem] theorem en66 : enters Try.prog 66 = true := by kernel_rfl
@[go_sem] theorem en68 : enters Try.prog 68 = true := by kernel_rfl
@[go_sem] theorem en69 : enters Try.prog 69 = true := by kernel_rfl
@[go_sem] theorem en70 : enters Try.prog 70 = true := by kernel_rfl
@[go_sem] theorem en72 : enters Try.prog 72 = true := by kernel_rfl
@[go_sem] theorem en75 : enters Try.prog 75 = true := by kernel_rfl
abbrev ac_rostrumkeep_picked := CC.of Try.f5 []
abbrev ac_rostrumkeep_Command := CC.of Try.f6 [(1, [([0, 1, 2, 3, 4, 5, 6, 7, 8, 9], [(1, 8), (5, 2), (5, 8)]), ([0, 1, 2, 3, 4, 5, 8, 6, 7, 9], [(1, 6), (5, 2), (5, 6)]), ([0, 1, 4, 5, 8, 2, 3, 6, 7, 9], [(1, 4), (3, 4), (3, 5)])])]
abbrev ac_value_Do := CC.of Try.f7 [(13, [([0, 1, 2, 3, 4], [(0, 1)])]), (18, [([0, 1, 2, 3, 4], [(0, 1)])]), (21, [([0, 1, 2, 3, 4, 5], [(2, 1), (2, 3)])]), (24, [([0, 1, 2, 3, 4, 5], [(2, 1), (2, 3)])])]
abbrev ac_rostrumkeep_sameReply := CC.of Try.f8 []
abbrev ac_rostrumkeep_sameTexts := CC.of Try.f9 [(6, [([0, 1, 2, 3, 4, 5, 6, 7, 8], [])])]
abbrev ac_rostrumkeep_some := CC.of Try.f10 []
abbrev ac_rostrumkeep_cut := CC.of Try.f11 []
abbrev ac_value_elements := CC.of Try.f12 []
abbrev ac_value_Check := CC.of Try.f13 [(30, [([0, 1, 2, 3, 4, 5, 6, 7, 8, 9, 10, 11], [])])]
abbrev ac_value_CheckCommand := CC.of Try.f14 [(18, [([0, 1, 2, 3, 4, 5, 6, 7], [(3, 5)])]), (23, [([0, 1, 2, 3, 4, 5, 6, 7], [(3, 5)])])]
abbrev ac_value_own := CC.of Try.f15 [(1, [([0, 1, 2, 3, 4, 5, 6, 7, 8, 9, 10, 11, 12, 13, 14], [(4, 2), (7, 2), (7, 5)])])]
abbrev ac_value_kindOf := CC.of Try.f16 []
abbrev ac_value_makes := CC.of Try.f17 []
abbrev ac_value_failed := CC.of Try.f18 []
abbrev ac_value_do := CC.of Try.f19 [(8, [([0, 1, 2, 3, 4, 5, 6, 7, 8], [])]), (10, [([0, 1, 2, 3, 4, 5, 6, 7, 8, 9], [])])]
abbrev ac_value_text := CC.of Try.f20 []
abbrev ac_slices_ContainsFunc_string := CC.of Try.f21 []
abbrev ac_value_Check_1 := CC.of Try.f22 []
abbrev ac_slices_ContainsFunc_api_Pair := CC.of Try.f23 []
abbrev ac_value_Check_2 := CC.of Try.f24 []
abbrev ac_value_field := CC.of Try.f25 []
abbrev ac_slices_ContainsFunc_api_Score := CC.of Try.f26 []
abbrev ac_value_Check_3 := CC.of Try.f27 []
abbrev ac_value_count := CC.of Try.f28 []
abbrev ac_value_Check_4 := CC.of Try.f29 []
abbrev ac_value_rising_api_Pair := CC.of Try.f30 [(4, [([0, 1, 2, 3, 4, 5, 6, 7, 8, 9, 10, 11], [])])]
abbrev ac_value_byField := CC.of Try.f31 []
abbrev ac_value_rising_api_Score := CC.of Try.f32 [(4, [([0, 1, 2, 3, 4, 5, 6, 7, 8, 9, 10, 11], [])])]
abbrev ac_value_byScore := CC.of Try.f33 [(1, [([0, 1, 2, 3, 4, 5, 6, 7, 8, 9, 10, 11, 12], [(6, 4), (8, 4)])])]
abbrev ac_value_rising_string := CC.of Try.f34 [(4, [([0, 1, 2, 3, 4, 5, 6, 7, 8, 9, 10, 11], [])])]
abbrev ac_strings_Compare := CC.of Try.f35 []
abbrev ac_value_rank := CC.of Try.f36 []
abbrev ac_slices_Clone_api_Pair := CC.of Try.f37 []
abbrev ac_slices_Clone_string := CC.of Try.f38 []
abbrev ac_slices_Clone_api_Score := CC.of Try.f39 []
abbrev ac_value_told := CC.of Try.f40 []
abbrev ac_value_all := CC.of Try.f41 []
abbrev ac_value_hash := CC.of Try.f42 [(1, [([0, 1, 2, 3, 4, 5, 6, 7, 8, 9, 10, 11, 12], [])]), (3, [([0, 1, 2, 3, 4, 5, 6, 7, 8, 9], [])]), (8, [([0, 1, 2, 3, 4, 5, 6, 7, 8, 9, 10, 11, 12, 13, 14, 15], [(4, 11)])])]
abbrev ac_value_list := CC.of Try.f43 [(7, [([0, 1, 2, 3, 4, 5, 6, 7, 8, 9, 10, 11], [(4, 7)])]), (10, [([0, 1, 2, 3, 4, 5, 6, 7, 8, 9, 10, 11], [(4, 7)])]), (13, [([0, 1, 2, 3, 4, 5, 6, 7, 8, 9, 10, 11, 12, 13, 14, 15, 16, 17, 18, 19], [])]), (3, [([0, 1, 2, 3, 4, 5, 6, 7, 8, 9, 10, 11, 12, 13, 14, 15], [])])]
abbrev ac_value_set := CC.of Try.f44 [(1, [([0, 1, 2, 3, 4, 5, 6, 7, 8, 9, 10, 11], [])]), (5, [([0, 1, 2, 3, 4, 5, 6, 7, 8, 9, 10, 11, 12], [(4, 8)])])]
abbrev ac_value_ranks := CC.of Try.f45 [(1, [([0, 1, 2, 3, 4, 5, 6, 7], [])]), (13, [([0, 1, 2, 3, 4, 5, 6, 7, 8, 9, 10], [])]), (14, [([0, 1, 2, 3, 4, 5, 6, 7, 8, 9, 10, 11], [(4, 7)])])]
abbrev ac_slices_IndexFunc_string := CC.of Try.f46 []
abbrev ac_slices_IndexFunc_api_Pair := CC.of Try.f47 []
abbrev ac_slices_IndexFunc_api_Score := CC.of Try.f48 []
abbrev ac_cmp_Or_int := CC.of Try.f49 []
abbrev ac_cmp_Compare_int := CC.of Try.f50 []
abbrev ac_value_rank_1 := CC.of Try.f52 []
abbrev ac_slices_BinarySearchFunc_api_Pair_api_Pair := CC.of Try.f53 [(5, [([0, 1, 2, 3, 4, 5, 6, 7], [])]), (8, [([0, 1, 2, 3, 4, 5, 6, 7, 8, 9, 10, 11, 12, 13, 14, 15], [])])]
abbrev ac_slices_Insert_api_Pair := CC.of Try.f54 [(11, [([0, 1, 2, 3, 4, 5, 6, 7, 8], [])]), (15, [([0, 1, 2, 3, 4, 5, 6, 7, 8], [])])]
abbrev ac_slices_Delete_api_Pair := CC.of Try.f55 [(5, [([0, 1, 2, 3, 4, 5, 6, 7], [])])]
abbrev ac_value_flag := CC.of Try.f56 []
abbrev ac_slices_Insert_string := CC.of Try.f57 [(11, [([0, 1, 2, 3, 4, 5, 6, 7, 8], [])]), (15, [([0, 1, 2, 3, 4, 5, 6, 7, 8], [])])]
abbrev ac_slices_BinarySearch_string := CC.of Try.f58 []
abbrev ac_slices_Delete_string := CC.of Try.f59 [(5, [([0, 1, 2, 3, 4, 5, 6, 7], [])])]
abbrev ac_slices_Delete_api_Score := CC.of Try.f60 [(5, [([0, 1, 2, 3, 4, 5, 6, 7], [])])]
abbrev ac_slices_BinarySearchFunc_api_Score_api_Score := CC.of Try.f61 [(5, [([0, 1, 2, 3, 4, 5, 6, 7], [])]), (8, [([0, 1, 2, 3, 4, 5, 6, 7, 8, 9, 10, 11, 12, 13, 14, 15], [])])]
abbrev ac_slices_Insert_api_Score := CC.of Try.f62 [(11, [([0, 1, 2, 3, 4, 5, 6, 7, 8], [])]), (15, [([0, 1, 2, 3, 4, 5, 6, 7, 8], [])])]
abbrev ac_cmp_isNaN_int := CC.of Try.f63 []
abbrev ac_cmp_Less_string := CC.of Try.f69 []
abbrev ac_slices_isNaN_string := CC.of Try.f70 []
abbrev ac_cmp_isNaN_string := CC.of Try.f75 []

end Go.Proofs.Ytcfpphadlgbfdaa
