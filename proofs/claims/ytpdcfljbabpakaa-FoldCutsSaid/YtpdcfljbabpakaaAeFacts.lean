/- Facts of the translation, printed by gen.py (wip/ae): types by what the evaluator needs, the code of functions. -/
import Derived.Test.YtpdcfljbabpakaaProg
import Derived.Test.YtpdcfljbabpakaaAeRun
set_option maxRecDepth 100000
set_option maxHeartbeats 8000000
namespace Go.Proofs.Ytpdcfljbabpakaa
open Go Go.RowKit Go.Proofs.AE

@[go_sem] theorem ti1 : tiOf Try.prog 1 = some ⟨.other, 1, 8, [.lit .nilFunc], []⟩ := by kernel_rfl
@[go_sem] theorem ti3 : tiOf Try.prog 3 = some ⟨.int .i64, 1, 8, [.lit (.int .i64 0)], []⟩ := by kernel_rfl
@[go_sem] theorem ti4 : tiOf Try.prog 4 = some ⟨.bool, 1, 1, [.lit (.bool false)], []⟩ := by kernel_rfl
@[go_sem] theorem ti5 : tiOf Try.prog 5 = some ⟨.int .u8, 1, 1, [.lit (.int .u8 0)], []⟩ := by kernel_rfl
@[go_sem] theorem ti9 : tiOf Try.prog 9 = some ⟨.string, 1, 16, [.lit (.string ⟨#[]⟩)], []⟩ := by kernel_rfl
@[go_sem] theorem ti22 : tiOf Try.prog 22 = some ⟨.slice 5, 1, 24, [.sl []], []⟩ := by kernel_rfl
@[go_sem] theorem ti23 : tiOf Try.prog 23 = some ⟨.slice 80, 1, 24, [.sl []], []⟩ := by kernel_rfl
@[go_sem] theorem ti25 : tiOf Try.prog 25 = some ⟨.struct [(3, 0), (23, 1)], 2, 32, [.lit (.int .i64 0), .sl []], []⟩ := by kernel_rfl
@[go_sem] theorem ti26 : tiOf Try.prog 26 = some ⟨.slice 84, 1, 24, [.sl []], []⟩ := by kernel_rfl
@[go_sem] theorem ti28 : tiOf Try.prog 28 = some ⟨.struct [(25, 0), (3, 2), (26, 3)], 4, 64, [.lit (.int .i64 0), .sl [], .lit (.int .i64 0), .sl []], []⟩ := by kernel_rfl
@[go_sem] theorem ti29 : tiOf Try.prog 29 = some ⟨.int .i64, 1, 8, [.lit (.int .i64 0)], []⟩ := by kernel_rfl
@[go_sem] theorem ti35 : tiOf Try.prog 35 = some ⟨.slice 61, 1, 24, [.sl []], []⟩ := by kernel_rfl
@[go_sem] theorem ti36 : tiOf Try.prog 36 = some ⟨.slice 44, 1, 24, [.sl []], []⟩ := by kernel_rfl
@[go_sem] theorem ti38 : tiOf Try.prog 38 = some ⟨.slice 48, 1, 24, [.sl []], []⟩ := by kernel_rfl
@[go_sem] theorem ti40 : tiOf Try.prog 40 = some ⟨.struct [(3, 0), (9, 1), (9, 2), (9, 3), (3, 4)], 5, 64, [.lit (.int .i64 0), .lit (.string ⟨#[]⟩), .lit (.string ⟨#[]⟩), .lit (.string ⟨#[]⟩), .lit (.int .i64 0)], [.int .i64, .string, .string, .string, .int .i64]⟩ := by kernel_rfl
@[go_sem] theorem ti42 : tiOf Try.prog 42 = some ⟨.struct [(3, 0), (3, 1), (40, 2)], 7, 80, [.lit (.int .i64 0), .lit (.int .i64 0), .lit (.int .i64 0), .lit (.string ⟨#[]⟩), .lit (.string ⟨#[]⟩), .lit (.string ⟨#[]⟩), .lit (.int .i64 0)], [.int .i64, .int .i64, .int .i64, .string, .string, .string, .int .i64]⟩ := by kernel_rfl
@[go_sem] theorem ti44 : tiOf Try.prog 44 = some ⟨.struct [(3, 0), (3, 1), (4, 2), (42, 3)], 10, 104, [.lit (.int .i64 0), .lit (.int .i64 0), .lit (.bool false), .lit (.int .i64 0), .lit (.int .i64 0), .lit (.int .i64 0), .lit (.string ⟨#[]⟩), .lit (.string ⟨#[]⟩), .lit (.string ⟨#[]⟩), .lit (.int .i64 0)], [.int .i64, .int .i64, .bool, .int .i64, .int .i64, .int .i64, .string, .string, .string, .int .i64]⟩ := by kernel_rfl
@[go_sem] theorem ti46 : tiOf Try.prog 46 = some ⟨.struct [(3, 0), (3, 1), (28, 2)], 6, 80, [.lit (.int .i64 0), .lit (.int .i64 0), .lit (.int .i64 0), .sl [], .lit (.int .i64 0), .sl []], []⟩ := by kernel_rfl
@[go_sem] theorem ti48 : tiOf Try.prog 48 = some ⟨.struct [(3, 0), (3, 1), (3, 2), (3, 3), (44, 4), (46, 14)], 20, 216, [.lit (.int .i64 0), .lit (.int .i64 0), .lit (.int .i64 0), .lit (.int .i64 0), .lit (.int .i64 0), .lit (.int .i64 0), .lit (.bool false), .lit (.int .i64 0), .lit (.int .i64 0), .lit (.int .i64 0), .lit (.string ⟨#[]⟩), .lit (.string ⟨#[]⟩), .lit (.string ⟨#[]⟩), .lit (.int .i64 0), .lit (.int .i64 0), .lit (.int .i64 0), .lit (.int .i64 0), .sl [], .lit (.int .i64 0), .sl []], []⟩ := by kernel_rfl
@[go_sem] theorem ti50 : tiOf Try.prog 50 = some ⟨.struct [(3, 0), (3, 1), (36, 2)], 3, 40, [.lit (.int .i64 0), .lit (.int .i64 0), .sl []], []⟩ := by kernel_rfl
@[go_sem] theorem ti52 : tiOf Try.prog 52 = some ⟨.struct [(3, 0), (3, 1), (46, 2), (50, 8)], 11, 136, [.lit (.int .i64 0), .lit (.int .i64 0), .lit (.int .i64 0), .lit (.int .i64 0), .lit (.int .i64 0), .sl [], .lit (.int .i64 0), .sl [], .lit (.int .i64 0), .lit (.int .i64 0), .sl []], []⟩ := by kernel_rfl
@[go_sem] theorem ti59 : tiOf Try.prog 59 = some ⟨.struct [(3, 0), (3, 1), (3, 2), (3, 3), (9, 4)], 5, 48, [.lit (.int .i64 0), .lit (.int .i64 0), .lit (.int .i64 0), .lit (.int .i64 0), .lit (.string ⟨#[]⟩)], [.int .i64, .int .i64, .int .i64, .int .i64, .string]⟩ := by kernel_rfl
@[go_sem] theorem ti61 : tiOf Try.prog 61 = some ⟨.struct [(3, 0), (3, 1), (3, 2), (59, 3)], 8, 72, [.lit (.int .i64 0), .lit (.int .i64 0), .lit (.int .i64 0), .lit (.int .i64 0), .lit (.int .i64 0), .lit (.int .i64 0), .lit (.int .i64 0), .lit (.string ⟨#[]⟩)], [.int .i64, .int .i64, .int .i64, .int .i64, .int .i64, .int .i64, .int .i64, .string]⟩ := by kernel_rfl
@[go_sem] theorem ti64 : tiOf Try.prog 64 = some ⟨.slice 3, 1, 24, [.sl []], []⟩ := by kernel_rfl
@[go_sem] theorem ti66 : tiOf Try.prog 66 = some ⟨.pointer 69, 1, 8, [.lit (.pointer none)], []⟩ := by kernel_rfl
@[go_sem] theorem ti69 : tiOf Try.prog 69 = some ⟨.struct [(22, 0), (4, 1)], 2, 32, [.sl [], .lit (.bool false)], []⟩ := by kernel_rfl
@[go_sem] theorem ti73 : tiOf Try.prog 73 = some ⟨.slice 106, 1, 24, [.sl []], []⟩ := by kernel_rfl
@[go_sem] theorem ti74 : tiOf Try.prog 74 = some ⟨.slice 9, 1, 24, [.sl []], []⟩ := by kernel_rfl
@[go_sem] theorem ti75 : tiOf Try.prog 75 = some ⟨.slice 108, 1, 24, [.sl []], []⟩ := by kernel_rfl
@[go_sem] theorem ti77 : tiOf Try.prog 77 = some ⟨.struct [(3, 0), (9, 1), (3, 2), (73, 3), (74, 4), (75, 5)], 6, 104, [.lit (.int .i64 0), .lit (.string ⟨#[]⟩), .lit (.int .i64 0), .sl [], .sl [], .sl []], []⟩ := by kernel_rfl
@[go_sem] theorem ti80 : tiOf Try.prog 80 = some ⟨.struct [(9, 0), (77, 1), (3, 7)], 8, 128, [.lit (.string ⟨#[]⟩), .lit (.int .i64 0), .lit (.string ⟨#[]⟩), .lit (.int .i64 0), .sl [], .sl [], .sl [], .lit (.int .i64 0)], []⟩ := by kernel_rfl
@[go_sem] theorem ti82 : tiOf Try.prog 82 = some ⟨.struct [(29, 0), (9, 1), (3, 2), (74, 3)], 4, 56, [.lit (.int .i64 0), .lit (.string ⟨#[]⟩), .lit (.int .i64 0), .sl []], []⟩ := by kernel_rfl
@[go_sem] theorem ti84 : tiOf Try.prog 84 = some ⟨.struct [(3, 0), (3, 1), (3, 2), (82, 3)], 7, 80, [.lit (.int .i64 0), .lit (.int .i64 0), .lit (.int .i64 0), .lit (.int .i64 0), .lit (.string ⟨#[]⟩), .lit (.int .i64 0), .sl []], []⟩ := by kernel_rfl
@[go_sem] theorem ti88 : tiOf Try.prog 88 = some ⟨.pointer 90, 1, 8, [.lit (.pointer none)], []⟩ := by kernel_rfl
@[go_sem] theorem ti90 : tiOf Try.prog 90 = some ⟨.struct [(22, 0)], 1, 24, [.sl []], []⟩ := by kernel_rfl
@[go_sem] theorem ti102 : tiOf Try.prog 102 = some ⟨.int .u64, 1, 8, [.lit (.int .u64 0)], []⟩ := by kernel_rfl
@[go_sem] theorem ti106 : tiOf Try.prog 106 = some ⟨.struct [(9, 0), (9, 1)], 2, 32, [.lit (.string ⟨#[]⟩), .lit (.string ⟨#[]⟩)], [.string, .string]⟩ := by kernel_rfl
@[go_sem] theorem ti108 : tiOf Try.prog 108 = some ⟨.struct [(9, 0), (3, 1)], 2, 24, [.lit (.string ⟨#[]⟩), .lit (.int .i64 0)], [.string, .int .i64]⟩ := by kernel_rfl
@[go_sem] theorem ti124 : tiOf Try.prog 124 = some ⟨.other, 1, 8, [.lit .nilFunc], []⟩ := by kernel_rfl
@[go_sem] theorem ti132 : tiOf Try.prog 132 = some ⟨.other, 1, 8, [.lit .nilFunc], []⟩ := by kernel_rfl
@[go_sem] theorem ti134 : tiOf Try.prog 134 = some ⟨.other, 1, 8, [.lit .nilFunc], []⟩ := by kernel_rfl
@[go_sem] theorem ti136 : tiOf Try.prog 136 = some ⟨.other, 1, 8, [.lit .nilFunc], []⟩ := by kernel_rfl
@[go_sem] theorem ti138 : tiOf Try.prog 138 = some ⟨.other, 1, 8, [.lit .nilFunc], []⟩ := by kernel_rfl
@[go_sem] theorem ti140 : tiOf Try.prog 140 = some ⟨.other, 1, 8, [.lit .nilFunc], []⟩ := by kernel_rfl
@[go_sem] theorem u8_5 : isU8 Try.prog 5 = true := by kernel_rfl
@[go_sem] theorem en3 : enters Try.prog 3 = true := by kernel_rfl
@[go_sem] theorem en4 : enters Try.prog 4 = true := by kernel_rfl
@[go_sem] theorem en5 : enters Try.prog 5 = true := by kernel_rfl
@[go_sem] theorem en6 : enters Try.prog 6 = true := by kernel_rfl
@[go_sem] theorem en7 : enters Try.prog 7 = true := by kernel_rfl
@[go_sem] theorem en8 : enters Try.prog 8 = true := by kernel_rfl
@[go_sem] theorem en9 : enters Try.prog 9 = true := by kernel_rfl
@[go_sem] theorem en10 : enters Try.prog 10 = true := by kernel_rfl
@[go_sem] theorem en11 : enters Try.prog 11 = true := by kernel_rfl
@[go_sem] theorem en12 : enters Try.prog 12 = true := by kernel_rfl
@[go_sem] theorem en13 : enters Try.prog 13 = true := by kernel_rfl
@[go_sem] theorem en14 : enters Try.prog 14 = true := by kernel_rfl
@[go_sem] theorem en15 : enters Try.prog 15 = true := by kernel_rfl
@[go_sem] theorem en16 : enters Try.prog 16 = true := by kernel_rfl
@[go_sem] theorem en17 : enters Try.prog 17 = true := by kernel_rfl
@[go_sem] theorem en18 : enters Try.prog 18 = true := by kernel_rfl
@[go_sem] theorem en19 : enters Try.prog 19 = true := by kernel_rfl
@[go_sem] theorem en20 : enters Try.prog 20 = true := by kernel_rfl
@[go_sem] theorem en21 : enters Try.prog 21 = true := by kernel_rfl
@[go_sem] theorem en22 : enters Try.prog 22 = true := by kernel_rfl
@[go_sem] theorem en23 : enters Try.prog 23 = true := by kernel_rfl
@[go_sem] theorem en24 : enters Try.prog 24 = true := by kernel_rfl
@[go_sem] theorem en25 : enters Try.prog 25 = true := by kernel_rfl
@[go_sem] theorem en26 : enters Try.prog 26 = true := by kernel_rfl
@[go_sem] theorem en27 : enters Try.prog 27 = true := by kernel_rfl
@[go_sem] theorem en28 : enters Try.prog 28 = true := by kernel_rfl
@[go_sem] theorem en29 : enters Try.prog 29 = true := by kernel_rfl
@[go_sem] theorem en30 : enters Try.prog 30 = true := by kernel_rfl
@[go_sem] theorem en31 : enters Try.prog 31 = true := by kernel_rfl
@[go_sem] theorem en32 : enters Try.prog 32 = true := by kernel_rfl
@[go_sem] theorem en33 : enters Try.prog 33 = true := by kernel_rfl
@[go_sem] theorem en34 : enters Try.prog 34 = true := by kernel_rfl
@[go_sem] theorem en35 : enters Try.prog 35 = true := by kernel_rfl
@[go_sem] theorem en36 : enters Try.prog 36 = true := by kernel_rfl
@[go_sem] theorem en37 : enters Try.prog 37 = true := by kernel_rfl
@[go_sem] theorem en38 : enters Try.prog 38 = true := by kernel_rfl
@[go_sem] theorem en39 : enters Try.prog 39 = true := by kernel_rfl
@[go_sem] theorem en40 : enters Try.prog 40 = true := by kernel_rfl
@[go_sem] theorem en41 : enters Try.prog 41 = true := by kernel_rfl
@[go_sem] theorem en42 : enters Try.prog 42 = true := by kernel_rfl
@[go_sem] theorem en43 : enters Try.prog 43 = true := by kernel_rfl
@[go_sem] theorem en44 : enters Try.prog 44 = true := by kernel_rfl
@[go_sem] theorem en45 : enters Try.prog 45 = true := by kernel_rfl
@[go_sem] theorem en46 : enters Try.prog 46 = true := by kernel_rfl
@[go_sem] theorem en47 : enters Try.prog 47 = true := by kernel_rfl
@[go_sem] theorem en48 : enters Try.prog 48 = true := by kernel_rfl
@[go_sem] theorem en49 : enters Try.prog 49 = true := by kernel_rfl
@[go_sem] theorem en50 : enters Try.prog 50 = true := by kernel_rfl
@[go_sem] theorem en51 : enters Try.prog 51 = true := by kernel_rfl
@[go_sem] theorem en52 : enters Try.prog 52 = true := by kernel_rfl
@[go_sem] theorem en53 : enters Try.prog 53 = true := by kernel_rfl
@[go_sem] theorem en54 : enters Try.prog 54 = true := by kernel_rfl
@[go_sem] theorem en55 : enters Try.prog 55 = true := by kernel_rfl
@[go_sem] theorem en56 : enters Try.prog 56 = true := by kernel_rfl
@[go_sem] theorem en57 : enters Try.prog 57 = true := by kernel_rfl
@[go_sem] theorem en58 : enters Try.prog 58 = true := by kernel_rfl
@[go_sem] theorem en59 : enters Try.prog 59 = true := by kernel_rfl
@[go_sem] theorem en60 : enters Try.prog 60 = true := by kernel_rfl
@[go_sem] theorem en61 : enters Try.prog 61 = true := by kernel_rfl
@[go_sem] theorem en62 : enters Try.prog 62 = true := by kernel_rfl
@[go_sem] theorem en63 : enters Try.prog 63 = true := by kernel_rfl
@[go_sem] theorem en64 : enters Try.prog 64 = true := by kernel_rfl
@[go_sem] theorem en65 : enters Try.prog 65 = true := by kernel_rfl
@[go_sem] theorem en66 : enters Try.prog 66 = true := by kernel_rfl
@[go_sem] theorem en67 : enters Try.prog 67 = true := by kernel_rfl
@[go_sem] theorem en68 : enters Try.prog 68 = true := by kernel_rfl
@[go_sem] theorem en69 : enters Try.prog 69 = true := by kernel_rfl
@[go_sem] theorem en70 : enters Try.prog 70 = true := by kernel_rfl
@[go_sem] theorem en71 : enters Try.prog 71 = true := by kernel_rfl
@[go_sem] theorem en72 : enters Try.prog 72 = true := by kernel_rfl
@[go_sem] theorem en73 : enters Try.prog 73 = true := by kernel_rfl
@[go_sem] theorem en74 : enters Try.prog 74 = true := by kernel_rfl
@[go_sem] theorem en75 : enters Try.prog 75 = true := by kernel_rfl
@[go_sem] theorem en76 : enters Try.prog 76 = true := by kernel_rfl
@[go_sem] theorem en77 : enters Try.prog 77 = true := by kernel_rfl
@[go_sem] theorem en78 : enters Try.prog 78 = true := by kernel_rfl
@[go_sem] theorem en79 : enters Try.prog 79 = true := by kernel_rfl
@[go_sem] theorem en80 : enters Try.prog 80 = true := by kernel_rfl
@[go_sem] theorem en81 : enters Try.prog 81 = true := by kernel_rfl
@[go_sem] theorem en82 : enters Try.prog 82 = true := by kernel_rfl
@[go_sem] theorem en83 : enters Try.prog 83 = true := by kernel_rfl
@[go_sem] theorem en84 : enters Try.prog 84 = true := by kernel_rfl
@[go_sem] theorem en85 : enters Try.prog 85 = true := by kernel_rfl
abbrev ac_wire_Decode := CC.of Try.f7 []
abbrev ac_wire_Encode := CC.of Try.f8 []
abbrev ac_rostrumkeep_items := CC.of Try.f9 []
abbrev ac_tape_Fold := CC.of Try.f10 [(10, [([0, 1, 2, 3, 4, 5, 6, 7], [(3, 5)])]), (18, [([0, 1, 2, 3, 4, 5, 6, 7, 8, 9, 10], [(1, 6)])])]
abbrev ac_tape_New := CC.of Try.f11 []
abbrev ac_rostrumkeep_sameItems := CC.of Try.f12 [(6, [([0, 1, 2, 3, 4, 5, 6, 7, 8], [])])]
abbrev ac_rostrumkeep_picked := CC.of Try.f13 []
abbrev ac_slices_Clone_byte := CC.of Try.f14 []
abbrev ac_wire_reader_number := CC.of Try.f15 []
abbrev ac_wire_reader_each := CC.of Try.f16 []
abbrev ac_wire_Decode_1 := CC.of Try.f17 [(0, [([0, 1, 2, 3, 4, 5, 6, 7, 8, 9, 10, 11, 12, 13, 14], [(2, 4), (2, 6), (2, 8), (2, 10), (5, 4), (7, 4), (7, 6)])])]
abbrev ac_wire_reader_text := CC.of Try.f18 []
abbrev ac_wire_reader_value := CC.of Try.f19 [(1, [([0, 1, 2, 3, 4, 5, 6, 7, 8], [(0, 7), (2, 1), (2, 7), (4, 1), (4, 3), (4, 7)]), ([0, 1, 2, 3, 4, 7, 5, 6, 8], [(0, 5), (2, 1), (2, 5), (4, 1), (4, 3), (4, 5)]), ([0, 1, 2, 4, 7, 3, 5, 6, 8], [(0, 4), (2, 1), (2, 4), (3, 1), (3, 4), (3, 5)]), ([0, 2, 4, 7, 1, 3, 5, 6, 8], [(0, 3), (1, 3), (1, 4), (2, 3), (2, 4), (2, 5)])])]
abbrev ac_wire_Decode_2 := CC.of Try.f20 [(0, [([0, 1, 2, 3, 4, 5, 6, 7, 8], [(0, 7), (2, 1), (2, 7), (4, 1), (4, 3), (4, 7)]), ([0, 1, 2, 3, 4, 7, 5, 6, 8], [(0, 5), (2, 1), (2, 5), (4, 1), (4, 3), (4, 5)]), ([0, 1, 2, 4, 7, 3, 5, 6, 8], [(0, 4), (2, 1), (2, 4), (3, 1), (3, 4), (3, 5)]), ([0, 2, 4, 7, 1, 3, 5, 6, 8], [(0, 3), (1, 3), (1, 4), (2, 3), (2, 4), (2, 5)])]), (1, [([0, 1, 2, 3, 4, 5, 6, 7, 8], [(2, 1), (4, 1), (4, 3)])])]
abbrev ac_wire_reader_small := CC.of Try.f21 []
abbrev ac_wire_reader_texts := CC.of Try.f22 []
abbrev ac_wire_reader_end := CC.of Try.f23 []
abbrev ac_client_Check := CC.of Try.f24 [(6, [([0, 1, 2, 3, 4, 5, 6, 7, 8, 9, 10, 11, 12, 13, 14, 15, 16, 17, 18, 19, 20, 21, 22, 23, 24, 25], [])])]
abbrev ac_wire_writer_number := CC.of Try.f25 [(4, [([0, 1, 2, 3, 4, 5, 6, 7, 8, 9, 10, 11, 12, 13], [(4, 9)])])]
abbrev ac_wire_writer_small := CC.of Try.f26 []
abbrev ac_wire_writer_text := CC.of Try.f27 []
abbrev ac_wire_writer_value := CC.of Try.f28 []
abbrev ac_wire_writer_texts := CC.of Try.f29 []
abbrev ac_rostrumkeep_Item := CC.of Try.f30 [(3, [([0, 1, 2, 3, 4, 5, 6, 7, 8, 9, 10, 11, 12, 13], [(5, 2), (9, 2), (9, 6)])])]
abbrev ac_tape_Check := CC.of Try.f31 []
abbrev ac_tape_line := CC.of Try.f32 [(6, [([0, 1, 2, 3, 4, 5, 6, 7, 8, 9, 10, 11, 12, 13, 14, 15, 16, 17, 18], [(1, 12), (1, 14), (1, 15), (1, 17), (3, 12), (3, 14), (3, 15), (3, 17), (5, 14), (5, 17), (8, 14), (8, 17), (13, 12), (13, 17)]), ([0, 1, 2, 3, 4, 5, 6, 7, 8, 9, 10, 11, 12, 13, 14, 17, 15, 16, 18], [(1, 12), (1, 14), (1, 15), (1, 16), (3, 12), (3, 14), (3, 15), (3, 16), (5, 14), (5, 15), (8, 14), (8, 15), (13, 12), (13, 15)]), ([0, 1, 2, 3, 4, 5, 6, 7, 8, 9, 10, 11, 12, 13, 17, 14, 15, 16, 18], [(1, 12), (1, 14), (1, 15), (1, 16), (3, 12), (3, 14), (3, 15), (3, 16), (5, 14), (5, 15), (8, 14), (8, 15), (13, 12), (13, 14)]), ([0, 1, 2, 3, 4, 5, 6, 7, 8, 9, 10, 11, 13, 14, 12, 15, 16, 17, 18], [(1, 13), (1, 14), (1, 15), (1, 17), (3, 13), (3, 14), (3, 15), (3, 17), (5, 13), (5, 17), (8, 13), (8, 17), (12, 14), (12, 17)]), ([0, 1, 2, 3, 4, 5, 6, 7, 8, 9, 10, 11, 13, 14, 12, 17, 15, 16, 18], [(1, 13), (1, 14), (1, 15), (1, 16), (3, 13), (3, 14), (3, 15), (3, 16), (5, 13), (5, 15), (8, 13), (8, 15), (12, 14), (12, 15)]), ([0, 1, 2, 3, 4, 5, 6, 7, 8, 9, 10, 11, 13, 14, 17, 12, 15, 16, 18], [(1, 13), (1, 14), (1, 15), (1, 16), (3, 13), (3, 14), (3, 15), (3, 16), (5, 13), (5, 14), (8, 13), (8, 14), (12, 14), (12, 15)]), ([0, 1, 2, 3, 4, 5, 6, 7, 8, 9, 10, 11, 13, 17, 12, 14, 15, 16, 18], [(1, 13), (1, 14), (1, 15), (1, 16), (3, 13), (3, 14), (3, 15), (3, 16), (5, 13), (5, 15), (8, 13), (8, 15), (12, 13), (12, 14)]), ([0, 1, 2, 3, 4, 5, 6, 7, 8, 9, 10, 11, 13, 17, 14, 12, 15, 16, 18], [(1, 13), (1, 14), (1, 15), (1, 16), (3, 13), (3, 14), (3, 15), (3, 16), (5, 13), (5, 14), (8, 13), (8, 14), (12, 13), (12, 15)])])]
abbrev ac_tape_rest := CC.of Try.f33 []
abbrev ac_slices_Clone_api_Item := CC.of Try.f34 []
abbrev ac_client_New := CC.of Try.f35 []
abbrev ac_wire_reader_take := CC.of Try.f36 []
abbrev ac_wire_reader_value_1 := CC.of Try.f37 [(0, [([0, 1, 2, 3, 4, 5, 6, 7, 8, 9, 10], [(1, 3), (1, 5), (1, 7), (4, 3)])])]
abbrev ac_wire_reader_value_2 := CC.of Try.f38 [(0, [([0, 1, 2, 3, 4, 5, 6, 7, 8, 9, 10], [(1, 3), (1, 5), (1, 7), (4, 3)])])]
abbrev ac_wire_reader_texts_1 := CC.of Try.f39 [(0, [([0, 1, 2, 3, 4, 5], [(0, 2), (0, 3)])])]
abbrev ac_store_Check := CC.of Try.f40 [(6, [([0, 1, 2, 3, 4, 5, 6, 7, 8, 9, 10, 11, 12, 13, 14, 15, 16, 17, 18, 19, 20, 21, 22, 23, 24, 25, 26, 27, 28, 29, 30, 31], [])])]
abbrev ac_client_CheckReply := CC.of Try.f41 []
abbrev ac_rostrumkeep_Command := CC.of Try.f42 [(1, [([0, 1, 2, 3, 4, 5, 6, 7, 8, 9], [(1, 8), (5, 2), (5, 8)]), ([0, 1, 2, 3, 4, 5, 8, 6, 7, 9], [(1, 6), (5, 2), (5, 6)]), ([0, 1, 4, 5, 8, 2, 3, 6, 7, 9], [(1, 4), (3, 4), (3, 5)])])]
abbrev ac_tape_noSnap := CC.of Try.f43 []
abbrev ac_tape_number := CC.of Try.f44 []
abbrev ac_wire_CheckItem := CC.of Try.f45 []
abbrev ac_tape_CheckSnap := CC.of Try.f46 []
abbrev ac_ledger_Last := CC.of Try.f47 []
abbrev ac_ledger_Check := CC.of Try.f48 [(9, [([0, 1, 2, 3, 4, 5], [])])]
abbrev ac_ledger_Term := CC.of Try.f49 []
abbrev ac_ledger_Trim := CC.of Try.f50 []
abbrev ac_value_Check := CC.of Try.f51 [(30, [([0, 1, 2, 3, 4, 5, 6, 7, 8, 9, 10, 11], [])])]
abbrev ac_slices_ContainsFunc_string := CC.of Try.f52 []
abbrev ac_client_CheckReply_1 := CC.of Try.f53 []
abbrev ac_rostrumkeep_some := CC.of Try.f54 []
abbrev ac_rostrumkeep_cut := CC.of Try.f55 []
abbrev ac_client_CheckCall := CC.of Try.f56 []
abbrev ac_ledger_last := CC.of Try.f57 [(3, [([0, 1, 2, 3, 4, 5, 6, 7, 8, 9, 10, 11, 12], [])]), (4, [([0, 1, 2, 3, 4, 5], [])])]
abbrev ac_ledger_term := CC.of Try.f58 []
abbrev ac_value_elements := CC.of Try.f59 []
abbrev ac_value_text := CC.of Try.f60 []
abbrev ac_value_Check_1 := CC.of Try.f61 []
abbrev ac_slices_ContainsFunc_api_Pair := CC.of Try.f62 []
abbrev ac_value_Check_2 := CC.of Try.f63 []
abbrev ac_value_field := CC.of Try.f64 []
abbrev ac_slices_ContainsFunc_api_Score := CC.of Try.f65 []
abbrev ac_value_Check_3 := CC.of Try.f66 []
abbrev ac_value_count := CC.of Try.f67 []
abbrev ac_value_Check_4 := CC.of Try.f68 []
abbrev ac_value_rising_api_Pair := CC.of Try.f69 [(4, [([0, 1, 2, 3, 4, 5, 6, 7, 8, 9, 10, 11], [])])]
abbrev ac_value_byField := CC.of Try.f70 []
abbrev ac_value_rising_api_Score := CC.of Try.f71 [(4, [([0, 1, 2, 3, 4, 5, 6, 7, 8, 9, 10, 11], [])])]
abbrev ac_value_byScore := CC.of Try.f72 [(1, [([0, 1, 2, 3, 4, 5, 6, 7, 8, 9, 10, 11, 12], [(6, 4), (8, 4)])])]
abbrev ac_value_rising_string := CC.of Try.f73 [(4, [([0, 1, 2, 3, 4, 5, 6, 7, 8, 9, 10, 11], [])])]
abbrev ac_strings_Compare := CC.of Try.f74 []
abbrev ac_value_rank := CC.of Try.f75 []
abbrev ac_slices_IndexFunc_string := CC.of Try.f76 []
abbrev ac_client_number := CC.of Try.f77 []
abbrev ac_value_CheckCommand := CC.of Try.f78 [(18, [([0, 1, 2, 3, 4, 5, 6, 7], [(3, 5)])]), (23, [([0, 1, 2, 3, 4, 5, 6, 7], [(3, 5)])])]
abbrev ac_slices_IndexFunc_api_Pair := CC.of Try.f79 []
abbrev ac_slices_IndexFunc_api_Score := CC.of Try.f80 []
abbrev ac_cmp_Or_int := CC.of Try.f81 []
abbrev ac_cmp_Compare_int := CC.of Try.f82 []
abbrev ac_value_rank_1 := CC.of Try.f84 []
abbrev ac_cmp_isNaN_int := CC.of Try.f85 []

end Go.Proofs.Ytpdcfljbabpakaa
