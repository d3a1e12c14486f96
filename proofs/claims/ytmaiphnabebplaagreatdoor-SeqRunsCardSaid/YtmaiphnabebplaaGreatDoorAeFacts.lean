/- Facts of the translation, printed by gen.py (wip/ae): types by what the evaluator needs, the code of functions. -/
import Derived.Test.YtmaiphnabebplaaGreatDoorProg
import Derived.Test.YtmaiphnabebplaaGreatDoorAeRun
set_option maxRecDepth 100000
set_option maxHeartbeats 8000000
namespace Go.Proofs.YtmaiphnabebplaaGreatDoor
open Go Go.RowKit Go.Proofs.AE

@[go_sem] theorem ti3 : tiOf Tryz.prog 3 = some ⟨.int .i64, 1, 8, [.lit (.int .i64 0)], []⟩ := by kernel_rfl
@[go_sem] theorem ti4 : tiOf Tryz.prog 4 = some ⟨.bool, 1, 1, [.lit (.bool false)], []⟩ := by kernel_rfl
@[go_sem] theorem ti5 : tiOf Tryz.prog 5 = some ⟨.int .u8, 1, 1, [.lit (.int .u8 0)], []⟩ := by kernel_rfl
@[go_sem] theorem ti9 : tiOf Tryz.prog 9 = some ⟨.string, 1, 16, [.lit (.string ⟨#[]⟩)], []⟩ := by kernel_rfl
@[go_sem] theorem ti22 : tiOf Tryz.prog 22 = some ⟨.slice 26, 1, 24, [.sl []], []⟩ := by kernel_rfl
@[go_sem] theorem ti24 : tiOf Tryz.prog 24 = some ⟨.struct [(3, 0), (3, 1), (3, 2), (3, 3), (9, 4)], 5, 48, [.lit (.int .i64 0), .lit (.int .i64 0), .lit (.int .i64 0), .lit (.int .i64 0), .lit (.string ⟨#[]⟩)], [.int .i64, .int .i64, .int .i64, .int .i64, .string]⟩ := by kernel_rfl
@[go_sem] theorem ti26 : tiOf Tryz.prog 26 = some ⟨.struct [(3, 0), (3, 1), (3, 2), (24, 3)], 8, 72, [.lit (.int .i64 0), .lit (.int .i64 0), .lit (.int .i64 0), .lit (.int .i64 0), .lit (.int .i64 0), .lit (.int .i64 0), .lit (.int .i64 0), .lit (.string ⟨#[]⟩)], [.int .i64, .int .i64, .int .i64, .int .i64, .int .i64, .int .i64, .int .i64, .string]⟩ := by kernel_rfl
@[go_sem] theorem ti27 : tiOf Tryz.prog 27 = some ⟨.slice 88, 1, 24, [.sl []], []⟩ := by kernel_rfl
@[go_sem] theorem ti29 : tiOf Tryz.prog 29 = some ⟨.struct [(3, 0), (27, 1)], 2, 32, [.lit (.int .i64 0), .sl []], []⟩ := by kernel_rfl
@[go_sem] theorem ti30 : tiOf Tryz.prog 30 = some ⟨.slice 54, 1, 24, [.sl []], []⟩ := by kernel_rfl
@[go_sem] theorem ti32 : tiOf Tryz.prog 32 = some ⟨.struct [(29, 0), (3, 2), (30, 3)], 4, 64, [.lit (.int .i64 0), .sl [], .lit (.int .i64 0), .sl []], []⟩ := by kernel_rfl
@[go_sem] theorem ti34 : tiOf Tryz.prog 34 = some ⟨.int .i64, 1, 8, [.lit (.int .i64 0)], []⟩ := by kernel_rfl
@[go_sem] theorem ti35 : tiOf Tryz.prog 35 = some ⟨.slice 9, 1, 24, [.sl []], []⟩ := by kernel_rfl
@[go_sem] theorem ti37 : tiOf Tryz.prog 37 = some ⟨.struct [(34, 0), (9, 1), (3, 2), (35, 3)], 4, 56, [.lit (.int .i64 0), .lit (.string ⟨#[]⟩), .lit (.int .i64 0), .sl []], []⟩ := by kernel_rfl
@[go_sem] theorem ti41 : tiOf Tryz.prog 41 = some ⟨.struct [(3, 0), (9, 1), (9, 2), (9, 3), (3, 4)], 5, 64, [.lit (.int .i64 0), .lit (.string ⟨#[]⟩), .lit (.string ⟨#[]⟩), .lit (.string ⟨#[]⟩), .lit (.int .i64 0)], [.int .i64, .string, .string, .string, .int .i64]⟩ := by kernel_rfl
@[go_sem] theorem ti43 : tiOf Tryz.prog 43 = some ⟨.struct [(3, 0), (3, 1), (41, 2)], 7, 80, [.lit (.int .i64 0), .lit (.int .i64 0), .lit (.int .i64 0), .lit (.string ⟨#[]⟩), .lit (.string ⟨#[]⟩), .lit (.string ⟨#[]⟩), .lit (.int .i64 0)], [.int .i64, .int .i64, .int .i64, .string, .string, .string, .int .i64]⟩ := by kernel_rfl
@[go_sem] theorem ti54 : tiOf Tryz.prog 54 = some ⟨.struct [(3, 0), (3, 1), (3, 2), (37, 3)], 7, 80, [.lit (.int .i64 0), .lit (.int .i64 0), .lit (.int .i64 0), .lit (.int .i64 0), .lit (.string ⟨#[]⟩), .lit (.int .i64 0), .sl []], []⟩ := by kernel_rfl
@[go_sem] theorem ti60 : tiOf Tryz.prog 60 = some ⟨.slice 24, 1, 24, [.sl []], []⟩ := by kernel_rfl
@[go_sem] theorem ti66 : tiOf Tryz.prog 66 = some ⟨.pointer 32, 1, 8, [.lit (.pointer none)], []⟩ := by kernel_rfl
@[go_sem] theorem ti68 : tiOf Tryz.prog 68 = some ⟨.other, 1, 8, [.lit .nilFunc], []⟩ := by kernel_rfl
@[go_sem] theorem ti73 : tiOf Tryz.prog 73 = some ⟨.other, 1, 8, [.lit .nilFunc], []⟩ := by kernel_rfl
@[go_sem] theorem ti78 : tiOf Tryz.prog 78 = some ⟨.pointer 81, 1, 8, [.lit (.pointer none)], []⟩ := by kernel_rfl
@[go_sem] theorem ti81 : tiOf Tryz.prog 81 = some ⟨.struct [(29, 0), (3, 2), (4, 3)], 4, 48, [.lit (.int .i64 0), .sl [], .lit (.int .i64 0), .lit (.bool false)], []⟩ := by kernel_rfl
@[go_sem] theorem ti83 : tiOf Tryz.prog 83 = some ⟨.slice 100, 1, 24, [.sl []], []⟩ := by kernel_rfl
@[go_sem] theorem ti84 : tiOf Tryz.prog 84 = some ⟨.slice 103, 1, 24, [.sl []], []⟩ := by kernel_rfl
@[go_sem] theorem ti86 : tiOf Tryz.prog 86 = some ⟨.struct [(3, 0), (9, 1), (3, 2), (83, 3), (35, 4), (84, 5)], 6, 104, [.lit (.int .i64 0), .lit (.string ⟨#[]⟩), .lit (.int .i64 0), .sl [], .sl [], .sl []], []⟩ := by kernel_rfl
@[go_sem] theorem ti88 : tiOf Tryz.prog 88 = some ⟨.struct [(9, 0), (86, 1), (3, 7)], 8, 128, [.lit (.string ⟨#[]⟩), .lit (.int .i64 0), .lit (.string ⟨#[]⟩), .lit (.int .i64 0), .sl [], .sl [], .sl [], .lit (.int .i64 0)], []⟩ := by kernel_rfl
@[go_sem] theorem ti89 : tiOf Tryz.prog 89 = some ⟨.other, 1, 8, [.lit .nilFunc], []⟩ := by kernel_rfl
@[go_sem] theorem ti97 : tiOf Tryz.prog 97 = some ⟨.slice 5, 1, 24, [.sl []], []⟩ := by kernel_rfl
@[go_sem] theorem ti100 : tiOf Tryz.prog 100 = some ⟨.struct [(9, 0), (9, 1)], 2, 32, [.lit (.string ⟨#[]⟩), .lit (.string ⟨#[]⟩)], [.string, .string]⟩ := by kernel_rfl
@[go_sem] theorem ti103 : tiOf Tryz.prog 103 = some ⟨.struct [(9, 0), (3, 1)], 2, 24, [.lit (.string ⟨#[]⟩), .lit (.int .i64 0)], [.string, .int .i64]⟩ := by kernel_rfl
@[go_sem] theorem ti111 : tiOf Tryz.prog 111 = some ⟨.other, 1, 8, [.lit .nilFunc], []⟩ := by kernel_rfl
@[go_sem] theorem ti113 : tiOf Tryz.prog 113 = some ⟨.other, 1, 8, [.lit .nilFunc], []⟩ := by kernel_rfl
@[go_sem] theorem ti115 : tiOf Tryz.prog 115 = some ⟨.other, 1, 8, [.lit .nilFunc], []⟩ := by kernel_rfl
@[go_sem] theorem ti117 : tiOf Tryz.prog 117 = some ⟨.other, 1, 8, [.lit .nilFunc], []⟩ := by kernel_rfl
@[go_sem] theorem ti119 : tiOf Tryz.prog 119 = some ⟨.other, 1, 8, [.lit .nilFunc], []⟩ := by kernel_rfl
@[go_sem] theorem ti123 : tiOf Tryz.prog 123 = some ⟨.other, 1, 8, [.lit .nilFunc], []⟩ := by kernel_rfl
@[go_sem] theorem ti130 : tiOf Tryz.prog 130 = some ⟨.pointer 86, 1, 8, [.lit (.pointer none)], []⟩ := by kernel_rfl
@[go_sem] theorem ti135 : tiOf Tryz.prog 135 = some ⟨.int .u64, 1, 8, [.lit (.int .u64 0)], []⟩ := by kernel_rfl
@[go_sem] theorem ti140 : tiOf Tryz.prog 140 = some ⟨.slice 3, 1, 24, [.sl []], []⟩ := by kernel_rfl
@[go_sem] theorem u8_5 : isU8 Tryz.prog 5 = true := by kernel_rfl
@[go_sem] theorem en3 : enters Tryz.prog 3 = true := by kernel_rfl
@[go_sem] theorem en4 : enters Tryz.prog 4 = true := by kernel_rfl
@[go_sem] theorem en5 : enters Tryz.prog 5 = true := by kernel_rfl
@[go_sem] theorem en6 : enters Tryz.prog 6 = true := by kernel_rfl
@[go_sem] theorem en7 : enters Tryz.prog 7 = true := by kernel_rfl
@[go_sem] theorem en8 : enters Tryz.prog 8 = true := by kernel_rfl
@[go_sem] theorem en9 : enters Tryz.prog 9 = true := by kernel_rfl
@[go_sem] theorem en10 : enters Tryz.prog 10 = true := by kernel_rfl
@[go_sem] theorem en11 : enters Tryz.prog 11 = true := by kernel_rfl
@[go_sem] theorem en12 : enters Tryz.prog 12 = true := by kernel_rfl
@[go_sem] theorem en13 : enters Tryz.prog 13 = true := by kernel_rfl
@[go_sem] theorem en14 : enters Tryz.prog 14 = true := by kernel_rfl
@[go_sem] theorem en15 : enters Tryz.prog 15 = true := by kernel_rfl
@[go_sem] theorem en16 : enters Tryz.prog 16 = true := by kernel_rfl
@[go_sem] theorem en17 : enters Tryz.prog 17 = true := by kernel_rfl
@[go_sem] theorem en18 : enters Tryz.prog 18 = true := by kernel_rfl
@[go_sem] theorem en19 : enters Tryz.prog 19 = true := by kernel_rfl
@[go_sem] theorem en20 : enters Tryz.prog 20 = true := by kernel_rfl
@[go_sem] theorem en21 : enters Tryz.prog 21 = true := by kernel_rfl
@[go_sem] theorem en22 : enters Tryz.prog 22 = true := by kernel_rfl
@[go_sem] theorem en23 : enters Tryz.prog 23 = true := by kernel_rfl
@[go_sem] theorem en24 : enters Tryz.prog 24 = true := by kernel_rfl
@[go_sem] theorem en25 : enters Tryz.prog 25 = true := by kernel_rfl
@[go_sem] theorem en26 : enters Tryz.prog 26 = true := by kernel_rfl
@[go_sem] theorem en27 : enters Tryz.prog 27 = true := by kernel_rfl
@[go_sem] theorem en28 : enters Tryz.prog 28 = true := by kernel_rfl
@[go_sem] theorem en29 : enters Tryz.prog 29 = true := by kernel_rfl
@[go_sem] theorem en30 : enters Tryz.prog 30 = true := by kernel_rfl
@[go_sem] theorem en31 : enters Tryz.prog 31 = true := by kernel_rfl
@[go_sem] theorem en32 : enters Tryz.prog 32 = true := by kernel_rfl
@[go_sem] theorem en33 : enters Tryz.prog 33 = true := by kernel_rfl
@[go_sem] theorem en34 : enters Tryz.prog 34 = true := by kernel_rfl
@[go_sem] theorem en35 : enters Tryz.prog 35 = true := by kernel_rfl
@[go_sem] theorem en36 : enters Tryz.prog 36 = true := by kernel_rfl
@[go_sem] theorem en37 : enters Tryz.prog 37 = true := by kernel_rfl
@[go_sem] theorem en38 : enters Tryz.prog 38 = true := by kernel_rfl
@[go_sem] theorem en39 : enters Tryz.prog 39 = true := by kernel_rfl
@[go_sem] theorem en40 : enters Tryz.prog 40 = true := by kernel_rfl
@[go_sem] theorem en41 : enters Tryz.prog 41 = true := by kernel_rfl
@[go_sem] theorem en42 : enters Tryz.prog 42 = true := by kernel_rfl
@[go_sem] theorem en43 : enters Tryz.prog 43 = true := by kernel_rfl
@[go_sem] theorem en44 : enters Tryz.prog 44 = true := by kernel_rfl
@[go_sem] theorem en45 : enters Tryz.prog 45 = true := by kernel_rfl
@[go_sem] theorem en46 : enters Tryz.prog 46 = true := by kernel_rfl
@[go_sem] theorem en47 : enters Tryz.prog 47 = true := by kernel_rfl
@[go_sem] theorem en48 : enters Tryz.prog 48 = true := by kernel_rfl
@[go_sem] theorem en49 : enters Tryz.prog 49 = true := by kernel_rfl
@[go_sem] theorem en50 : enters Tryz.prog 50 = true := by kernel_rfl
@[go_sem] theorem en51 : enters Tryz.prog 51 = true := by kernel_rfl
@[go_sem] theorem en52 : enters Tryz.prog 52 = true := by kernel_rfl
@[go_sem] theorem en53 : enters Tryz.prog 53 = true := by kernel_rfl
@[go_sem] theorem en54 : enters Tryz.prog 54 = true := by kernel_rfl
@[go_sem] theorem en55 : enters Tryz.prog 55 = true := by kernel_rfl
@[go_sem] theorem en56 : enters Tryz.prog 56 = true := by kernel_rfl
@[go_sem] theorem en57 : enters Tryz.prog 57 = true := by kernel_rfl
@[go_sem] theorem en58 : enters Tryz.prog 58 = true := by kernel_rfl
@[go_sem] theorem en59 : enters Tryz.prog 59 = true := by kernel_rfl
@[go_sem] theorem en60 : enters Tryz.prog 60 = true := by kernel_rfl
@[go_sem] theorem en61 : enters Tryz.prog 61 = true := by kernel_rfl
@[go_sem] theorem en62 : enters Tryz.prog 62 = true := by kernel_rfl
@[go_sem] theorem en63 : enters Tryz.prog 63 = true := by kernel_rfl
@[go_sem] theorem en64 : enters Tryz.prog 64 = true := by kernel_rfl
@[go_sem] theorem en65 : enters Tryz.prog 65 = true := by kernel_rfl
@[go_sem] theorem en66 : enters Tryz.prog 66 = true := by kernel_rfl
@[go_sem] theorem en67 : enters Tryz.prog 67 = true := by kernel_rfl
@[go_sem] theorem en68 : enters Tryz.prog 68 = true := by kernel_rfl
@[go_sem] theorem en69 : enters Tryz.prog 69 = true := by kernel_rfl
@[go_sem] theorem en70 : enters Tryz.prog 70 = true := by kernel_rfl
@[go_sem] theorem en71 : enters Tryz.prog 71 = true := by kernel_rfl
@[go_sem] theorem en72 : enters Tryz.prog 72 = true := by kernel_rfl
@[go_sem] theorem en73 : enters Tryz.prog 73 = true := by kernel_rfl
@[go_sem] theorem en74 : enters Tryz.prog 74 = true := by kernel_rfl
@[go_sem] theorem en75 : enters Tryz.prog 75 = true := by kernel_rfl
@[go_sem] theorem en76 : enters Tryz.prog 76 = true := by kernel_rfl
@[go_sem] theorem en77 : enters Tryz.prog 77 = true := by kernel_rfl
@[go_sem] theorem en78 : enters Tryz.prog 78 = true := by kernel_rfl
@[go_sem] theorem en79 : enters Tryz.prog 79 = true := by kernel_rfl
@[go_sem] theorem en80 : enters Tryz.prog 80 = true := by kernel_rfl
@[go_sem] theorem en81 : enters Tryz.prog 81 = true := by kernel_rfl
@[go_sem] theorem en82 : enters Tryz.prog 82 = true := by kernel_rfl
@[go_sem] theorem en83 : enters Tryz.prog 83 = true := by kernel_rfl
@[go_sem] theorem en84 : enters Tryz.prog 84 = true := by kernel_rfl
@[go_sem] theorem en85 : enters Tryz.prog 85 = true := by kernel_rfl
@[go_sem] theorem en86 : enters Tryz.prog 86 = true := by kernel_rfl
@[go_sem] theorem en87 : enters Tryz.prog 87 = true := by kernel_rfl
@[go_sem] theorem en88 : enters Tryz.prog 88 = true := by kernel_rfl
@[go_sem] theorem en89 : enters Tryz.prog 89 = true := by kernel_rfl
@[go_sem] theorem en90 : enters Tryz.prog 90 = true := by kernel_rfl
@[go_sem] theorem en91 : enters Tryz.prog 91 = true := by kernel_rfl
@[go_sem] theorem en92 : enters Tryz.prog 92 = true := by kernel_rfl
@[go_sem] theorem en94 : enters Tryz.prog 94 = true := by kernel_rfl
@[go_sem] theorem en95 : enters Tryz.prog 95 = true := by kernel_rfl
@[go_sem] theorem en97 : enters Tryz.prog 97 = true := by kernel_rfl
@[go_sem] theorem en98 : enters Tryz.prog 98 = true := by kernel_rfl
@[go_sem] theorem en99 : enters Tryz.prog 99 = true := by kernel_rfl
@[go_sem] theorem en100 : enters Tryz.prog 100 = true := by kernel_rfl
@[go_sem] theorem en101 : enters Tryz.prog 101 = true := by kernel_rfl
@[go_sem] theorem en102 : enters Tryz.prog 102 = true := by kernel_rfl
@[go_sem] theorem en103 : enters Tryz.prog 103 = true := by kernel_rfl
@[go_sem] theorem en104 : enters Tryz.prog 104 = true := by kernel_rfl
@[go_sem] theorem en105 : enters Tryz.prog 105 = true := by kernel_rfl
@[go_sem] theorem en106 : enters Tryz.prog 106 = true := by kernel_rfl
@[go_sem] theorem en109 : enters Tryz.prog 109 = true := by kernel_rfl
@[go_sem] theorem en111 : enters Tryz.prog 111 = true := by kernel_rfl
@[go_sem] theorem en112 : enters Tryz.prog 112 = true := by kernel_rfl
@[go_sem] theorem en113 : enters Tryz.prog 113 = true := by kernel_rfl
@[go_sem] theorem en115 : enters Tryz.prog 115 = true := by kernel_rfl
@[go_sem] theorem en119 : enters Tryz.prog 119 = true := by kernel_rfl
abbrev ac_rostrumkeep_Machine := CC.of Tryz.f11 [(7, [([0, 1, 2, 3, 4, 5, 6, 7, 8, 9, 10, 11, 12, 13, 14, 15, 16, 17], [(0, 7), (0, 13), (0, 14), (2, 13), (2, 14), (5, 13), (5, 14), (6, 13), (6, 14)]), ([0, 1, 2, 3, 4, 5, 6, 7, 8, 9, 10, 11, 12, 14, 13, 15, 16, 17], [(0, 7), (0, 13), (0, 14), (2, 13), (2, 14), (5, 13), (5, 14), (6, 13), (6, 14)]), ([0, 1, 2, 3, 4, 5, 6, 7, 13, 8, 9, 10, 11, 12, 14, 15, 16, 17], [(0, 7), (0, 8), (0, 14), (2, 8), (2, 14), (5, 8), (5, 14), (6, 8), (6, 14)]), ([0, 1, 2, 3, 4, 5, 6, 7, 13, 14, 8, 9, 10, 11, 12, 15, 16, 17], [(0, 7), (0, 8), (0, 9), (2, 8), (2, 9), (5, 8), (5, 9), (6, 8), (6, 9)]), ([0, 1, 2, 3, 4, 5, 6, 7, 14, 8, 9, 10, 11, 12, 13, 15, 16, 17], [(0, 7), (0, 8), (0, 14), (2, 8), (2, 14), (5, 8), (5, 14), (6, 8), (6, 14)]), ([0, 1, 2, 3, 4, 5, 6, 7, 14, 13, 8, 9, 10, 11, 12, 15, 16, 17], [(0, 7), (0, 8), (0, 9), (2, 8), (2, 9), (5, 8), (5, 9), (6, 8), (6, 9)]), ([0, 1, 2, 3, 4, 5, 6, 13, 7, 8, 9, 10, 11, 12, 14, 15, 16, 17], [(0, 7), (0, 8), (0, 14), (2, 7), (2, 14), (5, 7), (5, 14), (6, 7), (6, 14)]), ([0, 1, 2, 3, 4, 5, 6, 13, 7, 14, 8, 9, 10, 11, 12, 15, 16, 17], [(0, 7), (0, 8), (0, 9), (2, 7), (2, 9), (5, 7), (5, 9), (6, 7), (6, 9)]), ([0, 1, 2, 3, 4, 5, 6, 13, 14, 7, 8, 9, 10, 11, 12, 15, 16, 17], [(0, 7), (0, 8), (0, 9), (2, 7), (2, 8), (5, 7), (5, 8), (6, 7), (6, 8)]), ([0, 1, 2, 3, 4, 5, 6, 14, 7, 8, 9, 10, 11, 12, 13, 15, 16, 17], [(0, 7), (0, 8), (0, 14), (2, 7), (2, 14), (5, 7), (5, 14), (6, 7), (6, 14)]), ([0, 1, 2, 3, 4, 5, 6, 14, 7, 13, 8, 9, 10, 11, 12, 15, 16, 17], [(0, 7), (0, 8), (0, 9), (2, 7), (2, 9), (5, 7), (5, 9), (6, 7), (6, 9)]), ([0, 1, 2, 3, 4, 5, 6, 14, 13, 7, 8, 9, 10, 11, 12, 15, 16, 17], [(0, 7), (0, 8), (0, 9), (2, 7), (2, 8), (5, 7), (5, 8), (6, 7), (6, 8)])])]
abbrev ac_client_Do := CC.of Tryz.f12 [(9, [([0, 1, 2, 3, 4, 5, 6, 7], [(1, 4), (1, 6), (3, 6)]), ([0, 1, 2, 3, 6, 4, 5, 7], [(1, 4), (1, 5), (3, 4)])]), (13, [([0, 1, 2, 3, 4], [(1, 2)])]), (18, [([0, 1, 2, 3, 4, 5, 6, 7], [])]), (19, [([0, 1, 2, 3, 4, 5, 6, 7, 8], [(0, 5)])]), (20, [([0, 1, 2, 3, 4, 5, 6, 7, 8], [])]), (24, [([0, 1, 2, 3, 4, 5, 6, 7, 8, 9, 10, 11, 12, 13, 14, 15, 16, 17], [(4, 8), (6, 8), (6, 11)])]), (25, [([0, 1, 2, 3, 4], [(1, 2)])])]
abbrev ac_rostrumkeep_call := CC.of Tryz.f13 [(9, [([0, 1, 2, 3, 4, 5, 6, 7, 8, 9, 10, 11, 12, 13, 14], [(1, 9), (3, 9), (5, 9)])])]
abbrev ac_client_Check := CC.of Tryz.f14 [(6, [([0, 1, 2, 3, 4, 5, 6, 7, 8, 9, 10, 11, 12, 13, 14, 15, 16, 17, 18, 19, 20, 21, 22, 23, 24, 25], [])])]
abbrev ac_client_CheckReply := CC.of Tryz.f15 []
abbrev ac_rostrumkeep_opened := CC.of Tryz.f16 []
abbrev ac_rostrumkeep_Command := CC.of Tryz.f17 [(1, [([0, 1, 2, 3, 4, 5, 6, 7, 8, 9], [(1, 8), (5, 2), (5, 8)]), ([0, 1, 2, 3, 4, 5, 8, 6, 7, 9], [(1, 6), (5, 2), (5, 6)]), ([0, 1, 4, 5, 8, 2, 3, 6, 7, 9], [(1, 4), (3, 4), (3, 5)])])]
abbrev ac_rostrumkeep_picked := CC.of Tryz.f18 []
abbrev ac_rostrumkeep_sameReply := CC.of Tryz.f19 []
abbrev ac_rostrumkeep_sameMachine := CC.of Tryz.f20 []
abbrev ac_store_Apply := CC.of Tryz.f21 [(10, [([0, 1, 2, 3, 4, 5, 6, 7, 8, 9, 10, 11], [])]), (11, [([0, 1, 2, 3, 4, 5, 6, 7, 8, 9, 10, 11], [(0, 7)])]), (13, [([0, 1, 2, 3, 4, 5, 6, 7, 8], [(5, 4), (5, 6)])])]
abbrev ac_rostrumkeep_sameStore := CC.of Tryz.f22 []
abbrev ac_client_New := CC.of Tryz.f23 []
abbrev ac_client_CheckCall := CC.of Tryz.f24 []
abbrev ac_client_ownClients := CC.of Tryz.f25 []
abbrev ac_client_open := CC.of Tryz.f26 [(8, [([0, 1, 2, 3, 4, 5, 6, 7, 8, 9, 10], [])]), (12, [([0, 1, 2, 3, 4, 5, 6, 7, 8, 9, 10, 11, 12, 13, 14, 15, 16, 17, 18, 19], [(4, 15)])])]
abbrev ac_slices_IndexFunc_api_Client := CC.of Tryz.f27 []
abbrev ac_client_Do_1 := CC.of Tryz.f28 []
abbrev ac_client_ownReply := CC.of Tryz.f29 []
abbrev ac_store_Check := CC.of Tryz.f30 [(6, [([0, 1, 2, 3, 4, 5, 6, 7, 8, 9, 10, 11, 12, 13, 14, 15, 16, 17, 18, 19, 20, 21, 22, 23, 24, 25, 26, 27, 28, 29, 30, 31], [])])]
abbrev ac_slices_ContainsFunc_string := CC.of Tryz.f31 []
abbrev ac_client_CheckReply_1 := CC.of Tryz.f32 []
abbrev ac_rostrumkeep_some := CC.of Tryz.f33 []
abbrev ac_rostrumkeep_cut := CC.of Tryz.f34 []
abbrev ac_rostrumkeep_sameTexts := CC.of Tryz.f35 [(6, [([0, 1, 2, 3, 4, 5, 6, 7, 8], [])])]
abbrev ac_value_CheckCommand := CC.of Tryz.f36 [(18, [([0, 1, 2, 3, 4, 5, 6, 7], [(3, 5)])]), (23, [([0, 1, 2, 3, 4, 5, 6, 7], [(3, 5)])])]
abbrev ac_store_own := CC.of Tryz.f37 [(6, [([0, 1, 2, 3, 4, 5, 6, 7, 8, 9, 10, 11, 12, 13, 14], [(4, 2), (7, 2), (7, 5)])])]
abbrev ac_slices_DeleteFunc_api_Entry := CC.of Tryz.f38 []
abbrev ac_store_Apply_1 := CC.of Tryz.f39 [(1, [([0, 1, 2, 3, 4, 5, 6, 7, 8, 9, 10, 11, 12, 13], [])])]
abbrev ac_store_keyed_do := CC.of Tryz.f40 [(21, [([0, 1, 2, 3, 4, 5, 6, 7, 8, 9, 10, 11, 12], [])])]
abbrev ac_rostrumkeep_sameValue := CC.of Tryz.f41 [(6, [([0, 1, 2, 3, 4, 5, 6, 7, 8, 9, 10], [])]), (11, [([0, 1, 2, 3, 4, 5, 6, 7, 8, 9, 10], [])])]
abbrev ac_client_number := CC.of Tryz.f42 []
abbrev ac_slices_Delete_api_Client := CC.of Tryz.f43 [(5, [([0, 1, 2, 3, 4, 5, 6, 7], [])])]
abbrev ac_slices_Clone_string := CC.of Tryz.f44 []
abbrev ac_value_Check := CC.of Tryz.f45 [(30, [([0, 1, 2, 3, 4, 5, 6, 7, 8, 9, 10, 11], [])])]
abbrev ac_slices_IndexFunc_string := CC.of Tryz.f46 []
abbrev ac_value_field := CC.of Tryz.f47 []
abbrev ac_value_text := CC.of Tryz.f48 []
abbrev ac_value_count := CC.of Tryz.f49 []
abbrev ac_slices_Clone_api_Pair := CC.of Tryz.f50 []
abbrev ac_slices_Clone_api_Score := CC.of Tryz.f51 []
abbrev ac_slices_IndexFunc_api_Entry := CC.of Tryz.f52 []
abbrev ac_store_keyed_find := CC.of Tryz.f53 []
abbrev ac_store_keyed_remove := CC.of Tryz.f54 [(0, [([0, 1, 2, 3, 4, 5, 6, 7, 8, 9, 10, 11, 12, 13, 14, 15, 16, 17, 18, 19], [])])]
abbrev ac_store_keyed_timed := CC.of Tryz.f55 [(3, [([0, 1, 2, 3, 4, 5, 6, 7, 8, 9, 10], [])]), (5, [([0, 1, 2, 3, 4, 5, 6, 7, 8, 9, 10, 11, 12], [])]), (6, [([0, 1, 2, 3, 4, 5, 6, 7, 8, 9, 10, 11, 12, 13], [])]), (8, [([0, 1, 2, 3, 4, 5, 6, 7, 8, 9, 10, 11], [])])]
abbrev ac_value_Do := CC.of Tryz.f56 [(13, [([0, 1, 2, 3, 4], [(0, 1)])]), (18, [([0, 1, 2, 3, 4], [(0, 1)])]), (21, [([0, 1, 2, 3, 4, 5], [(2, 1), (2, 3)])]), (24, [([0, 1, 2, 3, 4, 5], [(2, 1), (2, 3)])])]
abbrev ac_store_keyed_set := CC.of Tryz.f57 [(2, [([0, 1, 2, 3, 4, 5, 6, 7, 8, 9, 10, 11, 12, 13, 14, 15, 16, 17, 18], [(5, 13), (9, 13)])]), (3, [([0, 1, 2, 3, 4, 5, 6, 7, 8, 9, 10], [])])]
abbrev ac_value_elements := CC.of Tryz.f58 []
abbrev ac_value_Check_1 := CC.of Tryz.f59 []
abbrev ac_slices_ContainsFunc_api_Pair := CC.of Tryz.f60 []
abbrev ac_value_Check_2 := CC.of Tryz.f61 []
abbrev ac_slices_ContainsFunc_api_Score := CC.of Tryz.f62 []
abbrev ac_value_Check_3 := CC.of Tryz.f63 []
abbrev ac_value_Check_4 := CC.of Tryz.f64 []
abbrev ac_value_rising_api_Pair := CC.of Tryz.f65 [(4, [([0, 1, 2, 3, 4, 5, 6, 7, 8, 9, 10, 11], [])])]
abbrev ac_value_byField := CC.of Tryz.f66 []
abbrev ac_value_rising_api_Score := CC.of Tryz.f67 [(4, [([0, 1, 2, 3, 4, 5, 6, 7, 8, 9, 10, 11], [])])]
abbrev ac_value_byScore := CC.of Tryz.f68 [(1, [([0, 1, 2, 3, 4, 5, 6, 7, 8, 9, 10, 11, 12], [(6, 4), (8, 4)])])]
abbrev ac_value_rising_string := CC.of Tryz.f69 [(4, [([0, 1, 2, 3, 4, 5, 6, 7, 8, 9, 10, 11], [])])]
abbrev ac_strings_Compare := CC.of Tryz.f70 []
abbrev ac_value_rank := CC.of Tryz.f71 []
abbrev ac_slices_BinarySearchFunc_api_Entry_string := CC.of Tryz.f72 []
abbrev ac_store_keyed_find_1 := CC.of Tryz.f73 []
abbrev ac_slices_Delete_api_Entry := CC.of Tryz.f74 [(5, [([0, 1, 2, 3, 4, 5, 6, 7], [])])]
abbrev ac_value_own := CC.of Tryz.f75 [(1, [([0, 1, 2, 3, 4, 5, 6, 7, 8, 9, 10, 11, 12, 13, 14], [(4, 2), (7, 2), (7, 5)])])]
abbrev ac_value_kindOf := CC.of Tryz.f76 []
abbrev ac_value_makes := CC.of Tryz.f77 []
abbrev ac_value_failed := CC.of Tryz.f78 []
abbrev ac_value_do := CC.of Tryz.f79 [(8, [([0, 1, 2, 3, 4, 5, 6, 7, 8], [])]), (10, [([0, 1, 2, 3, 4, 5, 6, 7, 8, 9], [])])]
abbrev ac_slices_Insert_api_Entry := CC.of Tryz.f80 [(11, [([0, 1, 2, 3, 4, 5, 6, 7, 8], [])]), (15, [([0, 1, 2, 3, 4, 5, 6, 7, 8], [])])]
abbrev ac_slices_IndexFunc_api_Pair := CC.of Tryz.f81 []
abbrev ac_slices_IndexFunc_api_Score := CC.of Tryz.f82 []
abbrev ac_cmp_Or_int := CC.of Tryz.f83 []
abbrev ac_cmp_Compare_int := CC.of Tryz.f84 []
abbrev ac_value_rank_1 := CC.of Tryz.f86 []
abbrev ac_value_told := CC.of Tryz.f87 []
abbrev ac_value_all := CC.of Tryz.f88 []
abbrev ac_value_hash := CC.of Tryz.f89 [(1, [([0, 1, 2, 3, 4, 5, 6, 7, 8, 9, 10, 11, 12], [])]), (3, [([0, 1, 2, 3, 4, 5, 6, 7, 8, 9], [])]), (8, [([0, 1, 2, 3, 4, 5, 6, 7, 8, 9, 10, 11, 12, 13, 14, 15], [(4, 11)])])]
abbrev ac_value_list := CC.of Tryz.f90 [(7, [([0, 1, 2, 3, 4, 5, 6, 7, 8, 9, 10, 11], [(4, 7)])]), (10, [([0, 1, 2, 3, 4, 5, 6, 7, 8, 9, 10, 11], [(4, 7)])]), (13, [([0, 1, 2, 3, 4, 5, 6, 7, 8, 9, 10, 11, 12, 13, 14, 15, 16, 17, 18, 19], [])]), (3, [([0, 1, 2, 3, 4, 5, 6, 7, 8, 9, 10, 11, 12, 13, 14, 15], [])])]
abbrev ac_value_set := CC.of Tryz.f91 [(1, [([0, 1, 2, 3, 4, 5, 6, 7, 8, 9, 10, 11], [])]), (5, [([0, 1, 2, 3, 4, 5, 6, 7, 8, 9, 10, 11, 12], [(4, 8)])])]
abbrev ac_value_ranks := CC.of Tryz.f92 [(1, [([0, 1, 2, 3, 4, 5, 6, 7], [])]), (13, [([0, 1, 2, 3, 4, 5, 6, 7, 8, 9, 10], [])]), (14, [([0, 1, 2, 3, 4, 5, 6, 7, 8, 9, 10, 11], [(4, 7)])])]
abbrev ac_cmp_isNaN_int := CC.of Tryz.f95 []
abbrev ac_slices_BinarySearchFunc_api_Pair_api_Pair := CC.of Tryz.f97 [(5, [([0, 1, 2, 3, 4, 5, 6, 7], [])]), (8, [([0, 1, 2, 3, 4, 5, 6, 7, 8, 9, 10, 11, 12, 13, 14, 15], [])])]
abbrev ac_slices_Insert_api_Pair := CC.of Tryz.f98 [(11, [([0, 1, 2, 3, 4, 5, 6, 7, 8], [])]), (15, [([0, 1, 2, 3, 4, 5, 6, 7, 8], [])])]
abbrev ac_slices_Delete_api_Pair := CC.of Tryz.f99 [(5, [([0, 1, 2, 3, 4, 5, 6, 7], [])])]
abbrev ac_value_flag := CC.of Tryz.f100 []
abbrev ac_slices_Insert_string := CC.of Tryz.f101 [(11, [([0, 1, 2, 3, 4, 5, 6, 7, 8], [])]), (15, [([0, 1, 2, 3, 4, 5, 6, 7, 8], [])])]
abbrev ac_slices_BinarySearch_string := CC.of Tryz.f102 []
abbrev ac_slices_Delete_string := CC.of Tryz.f103 [(5, [([0, 1, 2, 3, 4, 5, 6, 7], [])])]
abbrev ac_slices_Delete_api_Score := CC.of Tryz.f104 [(5, [([0, 1, 2, 3, 4, 5, 6, 7], [])])]
abbrev ac_slices_BinarySearchFunc_api_Score_api_Score := CC.of Tryz.f105 [(5, [([0, 1, 2, 3, 4, 5, 6, 7], [])]), (8, [([0, 1, 2, 3, 4, 5, 6, 7, 8, 9, 10, 11, 12, 13, 14, 15], [])])]
abbrev ac_slices_Insert_api_Score := CC.of Tryz.f106 [(11, [([0, 1, 2, 3, 4, 5, 6, 7, 8], [])]), (15, [([0, 1, 2, 3, 4, 5, 6, 7, 8], [])])]
abbrev ac_cmp_Less_string := CC.of Tryz.f112 []
abbrev ac_slices_isNaN_string := CC.of Tryz.f113 []
abbrev ac_cmp_isNaN_string := CC.of Tryz.f119 []

end Go.Proofs.YtmaiphnabebplaaGreatDoor
