/- Texts joined. -/
import Derived.Test.YtkkleopmambcnaaGreatDoorProg
import Derived.Test.YtkkleopmambcnaaGreatDoorSk2
import Derived.IntWalk
import Derived.Lib.Strings
import Derived.Lib.Slices
import Derived.Lib.Walk
import Derived.Lib.Bytealg
import Derived.Deep.Slices
import Derived.ChangeStays
import Derived.MapPlaces
import Derived.ChangeBears
set_option maxRecDepth 100000
set_option maxHeartbeats 8000000
namespace Go.Proofs.YtkkleopmambcnaaGreatDoor
open Go Go.RowKit Go.Proofs.AE
@[go_sem] theorem ti1 : tiOf Tryz.prog 1 = some ⟨.other, 1, 8, [.lit .nilFunc], []⟩ := by kernel_rfl
@[go_sem] theorem ti3 : tiOf Tryz.prog 3 = some ⟨.int .i64, 1, 8, [.lit (.int .i64 0)], []⟩ := by kernel_rfl
@[go_sem] theorem ti4 : tiOf Tryz.prog 4 = some ⟨.bool, 1, 1, [.lit (.bool false)], []⟩ := by kernel_rfl
@[go_sem] theorem ti5 : tiOf Tryz.prog 5 = some ⟨.int .u8, 1, 1, [.lit (.int .u8 0)], []⟩ := by kernel_rfl
@[go_sem] theorem ti9 : tiOf Tryz.prog 9 = some ⟨.string, 1, 16, [.lit (.string ⟨#[]⟩)], []⟩ := by kernel_rfl
@[go_sem] theorem ti22 : tiOf Tryz.prog 22 = some ⟨.slice 83, 1, 24, [.sl []], []⟩ := by kernel_rfl
@[go_sem] theorem ti23 : tiOf Tryz.prog 23 = some ⟨.slice 31, 1, 24, [.sl []], []⟩ := by kernel_rfl
@[go_sem] theorem ti27 : tiOf Tryz.prog 27 = some ⟨.struct [(3, 0), (9, 1), (9, 2), (9, 3), (3, 4)], 5, 64, [.lit (.int .i64 0), .lit (.string ⟨#[]⟩), .lit (.string ⟨#[]⟩), .lit (.string ⟨#[]⟩), .lit (.int .i64 0)], [.int .i64, .string, .string, .string, .int .i64]⟩ := by kernel_rfl
@[go_sem] theorem ti29 : tiOf Tryz.prog 29 = some ⟨.struct [(3, 0), (3, 1), (27, 2)], 7, 80, [.lit (.int .i64 0), .lit (.int .i64 0), .lit (.int .i64 0), .lit (.string ⟨#[]⟩), .lit (.string ⟨#[]⟩), .lit (.string ⟨#[]⟩), .lit (.int .i64 0)], [.int .i64, .int .i64, .int .i64, .string, .string, .string, .int .i64]⟩ := by kernel_rfl
@[go_sem] theorem ti31 : tiOf Tryz.prog 31 = some ⟨.struct [(3, 0), (3, 1), (3, 2), (29, 3)], 10, 104, [.lit (.int .i64 0), .lit (.int .i64 0), .lit (.int .i64 0), .lit (.int .i64 0), .lit (.int .i64 0), .lit (.int .i64 0), .lit (.string ⟨#[]⟩), .lit (.string ⟨#[]⟩), .lit (.string ⟨#[]⟩), .lit (.int .i64 0)], [.int .i64, .int .i64, .int .i64, .int .i64, .int .i64, .int .i64, .string, .string, .string, .int .i64]⟩ := by kernel_rfl
@[go_sem] theorem ti32 : tiOf Tryz.prog 32 = some ⟨.slice 55, 1, 24, [.sl []], []⟩ := by kernel_rfl
@[go_sem] theorem ti33 : tiOf Tryz.prog 33 = some ⟨.slice 77, 1, 24, [.sl []], []⟩ := by kernel_rfl
@[go_sem] theorem ti34 : tiOf Tryz.prog 34 = some ⟨.slice 61, 1, 24, [.sl []], []⟩ := by kernel_rfl
@[go_sem] theorem ti36 : tiOf Tryz.prog 36 = some ⟨.struct [(32, 0), (33, 1), (34, 2), (3, 3)], 4, 80, [.sl [], .sl [], .sl [], .lit (.int .i64 0)], []⟩ := by kernel_rfl
@[go_sem] theorem ti37 : tiOf Tryz.prog 37 = some ⟨.int .i64, 1, 8, [.lit (.int .i64 0)], []⟩ := by kernel_rfl
@[go_sem] theorem ti41 : tiOf Tryz.prog 41 = some ⟨.slice 3, 1, 24, [.sl []], []⟩ := by kernel_rfl
@[go_sem] theorem ti45 : tiOf Tryz.prog 45 = some ⟨.slice 64, 1, 24, [.sl []], []⟩ := by kernel_rfl
@[go_sem] theorem ti47 : tiOf Tryz.prog 47 = some ⟨.struct [(3, 0), (3, 1), (45, 2)], 3, 40, [.lit (.int .i64 0), .lit (.int .i64 0), .sl []], []⟩ := by kernel_rfl
@[go_sem] theorem ti48 : tiOf Tryz.prog 48 = some ⟨.slice 93, 1, 24, [.sl []], []⟩ := by kernel_rfl
@[go_sem] theorem ti50 : tiOf Tryz.prog 50 = some ⟨.struct [(3, 0), (48, 1)], 2, 32, [.lit (.int .i64 0), .sl []], []⟩ := by kernel_rfl
@[go_sem] theorem ti51 : tiOf Tryz.prog 51 = some ⟨.slice 134, 1, 24, [.sl []], []⟩ := by kernel_rfl
@[go_sem] theorem ti53 : tiOf Tryz.prog 53 = some ⟨.struct [(50, 0), (3, 2), (51, 3)], 4, 64, [.lit (.int .i64 0), .sl [], .lit (.int .i64 0), .sl []], []⟩ := by kernel_rfl
@[go_sem] theorem ti55 : tiOf Tryz.prog 55 = some ⟨.struct [(4, 0), (3, 1), (4, 2), (3, 3), (47, 4), (53, 7)], 11, 136, [.lit (.bool false), .lit (.int .i64 0), .lit (.bool false), .lit (.int .i64 0), .lit (.int .i64 0), .lit (.int .i64 0), .sl [], .lit (.int .i64 0), .sl [], .lit (.int .i64 0), .sl []], []⟩ := by kernel_rfl
@[go_sem] theorem ti61 : tiOf Tryz.prog 61 = some ⟨.struct [(3, 0), (3, 1)], 2, 16, [.lit (.int .i64 0), .lit (.int .i64 0)], [.int .i64, .int .i64]⟩ := by kernel_rfl
@[go_sem] theorem ti64 : tiOf Tryz.prog 64 = some ⟨.struct [(3, 0), (3, 1), (4, 2), (29, 3)], 10, 104, [.lit (.int .i64 0), .lit (.int .i64 0), .lit (.bool false), .lit (.int .i64 0), .lit (.int .i64 0), .lit (.int .i64 0), .lit (.string ⟨#[]⟩), .lit (.string ⟨#[]⟩), .lit (.string ⟨#[]⟩), .lit (.int .i64 0)], [.int .i64, .int .i64, .bool, .int .i64, .int .i64, .int .i64, .string, .string, .string, .int .i64]⟩ := by kernel_rfl
@[go_sem] theorem ti71 : tiOf Tryz.prog 71 = some ⟨.slice 9, 1, 24, [.sl []], []⟩ := by kernel_rfl
@[go_sem] theorem ti73 : tiOf Tryz.prog 73 = some ⟨.struct [(37, 0), (9, 1), (3, 2), (71, 3)], 4, 56, [.lit (.int .i64 0), .lit (.string ⟨#[]⟩), .lit (.int .i64 0), .sl []], []⟩ := by kernel_rfl
@[go_sem] theorem ti77 : tiOf Tryz.prog 77 = some ⟨.struct [(3, 0), (29, 1), (73, 8)], 12, 144, [.lit (.int .i64 0), .lit (.int .i64 0), .lit (.int .i64 0), .lit (.int .i64 0), .lit (.string ⟨#[]⟩), .lit (.string ⟨#[]⟩), .lit (.string ⟨#[]⟩), .lit (.int .i64 0), .lit (.int .i64 0), .lit (.string ⟨#[]⟩), .lit (.int .i64 0), .sl []], []⟩ := by kernel_rfl
@[go_sem] theorem ti81 : tiOf Tryz.prog 81 = some ⟨.struct [(3, 0), (3, 1), (3, 2), (3, 3), (9, 4)], 5, 48, [.lit (.int .i64 0), .lit (.int .i64 0), .lit (.int .i64 0), .lit (.int .i64 0), .lit (.string ⟨#[]⟩)], [.int .i64, .int .i64, .int .i64, .int .i64, .string]⟩ := by kernel_rfl
@[go_sem] theorem ti83 : tiOf Tryz.prog 83 = some ⟨.struct [(3, 0), (3, 1), (3, 2), (81, 3)], 8, 72, [.lit (.int .i64 0), .lit (.int .i64 0), .lit (.int .i64 0), .lit (.int .i64 0), .lit (.int .i64 0), .lit (.int .i64 0), .lit (.int .i64 0), .lit (.string ⟨#[]⟩)], [.int .i64, .int .i64, .int .i64, .int .i64, .int .i64, .int .i64, .int .i64, .string]⟩ := by kernel_rfl
@[go_sem] theorem ti88 : tiOf Tryz.prog 88 = some ⟨.slice 151, 1, 24, [.sl []], []⟩ := by kernel_rfl
@[go_sem] theorem ti89 : tiOf Tryz.prog 89 = some ⟨.slice 154, 1, 24, [.sl []], []⟩ := by kernel_rfl
@[go_sem] theorem ti91 : tiOf Tryz.prog 91 = some ⟨.struct [(3, 0), (9, 1), (3, 2), (88, 3), (71, 4), (89, 5)], 6, 104, [.lit (.int .i64 0), .lit (.string ⟨#[]⟩), .lit (.int .i64 0), .sl [], .sl [], .sl []], []⟩ := by kernel_rfl
@[go_sem] theorem ti93 : tiOf Tryz.prog 93 = some ⟨.struct [(9, 0), (91, 1), (3, 7)], 8, 128, [.lit (.string ⟨#[]⟩), .lit (.int .i64 0), .lit (.string ⟨#[]⟩), .lit (.int .i64 0), .sl [], .sl [], .sl [], .lit (.int .i64 0)], []⟩ := by kernel_rfl
@[go_sem] theorem ti99 : tiOf Tryz.prog 99 = some ⟨.pointer 113, 1, 8, [.lit (.pointer none)], []⟩ := by kernel_rfl
@[go_sem] theorem ti101 : tiOf Tryz.prog 101 = some ⟨.struct [(3, 0), (3, 1), (53, 2)], 6, 80, [.lit (.int .i64 0), .lit (.int .i64 0), .lit (.int .i64 0), .sl [], .lit (.int .i64 0), .sl []], []⟩ := by kernel_rfl
@[go_sem] theorem ti102 : tiOf Tryz.prog 102 = some ⟨.array 3 4, 3, 3, [.lit (.bool false), .lit (.bool false), .lit (.bool false)], []⟩ := by kernel_rfl
@[go_sem] theorem ti103 : tiOf Tryz.prog 103 = some ⟨.array 3 3, 3, 24, [.lit (.int .i64 0), .lit (.int .i64 0), .lit (.int .i64 0)], []⟩ := by kernel_rfl
@[go_sem] theorem ti104 : tiOf Tryz.prog 104 = some ⟨.slice 176, 1, 24, [.sl []], []⟩ := by kernel_rfl
@[go_sem] theorem ti105 : tiOf Tryz.prog 105 = some ⟨.slice 5, 1, 24, [.sl []], []⟩ := by kernel_rfl
@[go_sem] theorem ti107 : tiOf Tryz.prog 107 = some ⟨.struct [(105, 0), (3, 1)], 2, 32, [.sl [], .lit (.int .i64 0)], []⟩ := by kernel_rfl
@[go_sem] theorem ti108 : tiOf Tryz.prog 108 = some ⟨.slice 144, 1, 24, [.sl []], []⟩ := by kernel_rfl
@[go_sem] theorem ti110 : tiOf Tryz.prog 110 = some ⟨.struct [(3, 0), (4, 1), (3, 2), (3, 3), (3, 4), (3, 5), (47, 6), (101, 9), (53, 15), (3, 19), (102, 20), (103, 23), (103, 26), (104, 29), (107, 30), (108, 32)], 33, 376, [.lit (.int .i64 0), .lit (.bool false), .lit (.int .i64 0), .lit (.int .i64 0), .lit (.int .i64 0), .lit (.int .i64 0), .lit (.int .i64 0), .lit (.int .i64 0), .sl [], .lit (.int .i64 0), .lit (.int .i64 0), .lit (.int .i64 0), .sl [], .lit (.int .i64 0), .sl [], .lit (.int .i64 0), .sl [], .lit (.int .i64 0), .sl [], .lit (.int .i64 0), .lit (.bool false), .lit (.bool false), .lit (.bool false), .lit (.int .i64 0), .lit (.int .i64 0), .lit (.int .i64 0), .lit (.int .i64 0), .lit (.int .i64 0), .lit (.int .i64 0), .sl [], .sl [], .lit (.int .i64 0), .sl []], []⟩ := by kernel_rfl
@[go_sem] theorem ti111 : tiOf Tryz.prog 111 = some ⟨.array 3 110, 99, 1128, [.lit (.int .i64 0), .lit (.bool false), .lit (.int .i64 0), .lit (.int .i64 0), .lit (.int .i64 0), .lit (.int .i64 0), .lit (.int .i64 0), .lit (.int .i64 0), .sl [], .lit (.int .i64 0), .lit (.int .i64 0), .lit (.int .i64 0), .sl [], .lit (.int .i64 0), .sl [], .lit (.int .i64 0), .sl [], .lit (.int .i64 0), .sl [], .lit (.int .i64 0), .lit (.bool false), .lit (.bool false), .lit (.bool false), .lit (.int .i64 0), .lit (.int .i64 0), .lit (.int .i64 0), .lit (.int .i64 0), .lit (.int .i64 0), .lit (.int .i64 0), .sl [], .sl [], .lit (.int .i64 0), .sl [], .lit (.int .i64 0), .lit (.bool false), .lit (.int .i64 0), .lit (.int .i64 0), .lit (.int .i64 0), .lit (.int .i64 0), .lit (.int .i64 0), .lit (.int .i64 0), .sl [], .lit (.int .i64 0), .lit (.int .i64 0), .lit (.int .i64 0), .sl [], .lit (.int .i64 0), .sl [], .lit (.int .i64 0), .sl [], .lit (.int .i64 0), .sl [], .lit (.int .i64 0), .lit (.bool false), .lit (.bool false), .lit (.bool false), .lit (.int .i64 0), .lit (.int .i64 0), .lit (.int .i64 0), .lit (.int .i64 0), .lit (.int .i64 0), .lit (.int .i64 0), .sl [], .sl [], .lit (.int .i64 0), .sl [], .lit (.int .i64 0), .lit (.bool false), .lit (.int .i64 0), .lit (.int .i64 0), .lit (.int .i64 0), .lit (.int .i64 0), .lit (.int .i64 0), .lit (.int .i64 0), .sl [], .lit (.int .i64 0), .lit (.int .i64 0), .lit (.int .i64 0), .sl [], .lit (.int .i64 0), .sl [], .lit (.int .i64 0), .sl [], .lit (.int .i64 0), .sl [], .lit (.int .i64 0), .lit (.bool false), .lit (.bool false), .lit (.bool false), .lit (.int .i64 0), .lit (.int .i64 0), .lit (.int .i64 0), .lit (.int .i64 0), .lit (.int .i64 0), .lit (.int .i64 0), .sl [], .sl [], .lit (.int .i64 0), .sl []], []⟩ := by kernel_rfl
@[go_sem] theorem ti113 : tiOf Tryz.prog 113 = some ⟨.struct [(111, 0), (108, 99), (33, 100), (34, 101)], 102, 1200, [.lit (.int .i64 0), .lit (.bool false), .lit (.int .i64 0), .lit (.int .i64 0), .lit (.int .i64 0), .lit (.int .i64 0), .lit (.int .i64 0), .lit (.int .i64 0), .sl [], .lit (.int .i64 0), .lit (.int .i64 0), .lit (.int .i64 0), .sl [], .lit (.int .i64 0), .sl [], .lit (.int .i64 0), .sl [], .lit (.int .i64 0), .sl [], .lit (.int .i64 0), .lit (.bool false), .lit (.bool false), .lit (.bool false), .lit (.int .i64 0), .lit (.int .i64 0), .lit (.int .i64 0), .lit (.int .i64 0), .lit (.int .i64 0), .lit (.int .i64 0), .sl [], .sl [], .lit (.int .i64 0), .sl [], .lit (.int .i64 0), .lit (.bool false), .lit (.int .i64 0), .lit (.int .i64 0), .lit (.int .i64 0), .lit (.int .i64 0), .lit (.int .i64 0), .lit (.int .i64 0), .sl [], .lit (.int .i64 0), .lit (.int .i64 0), .lit (.int .i64 0), .sl [], .lit (.int .i64 0), .sl [], .lit (.int .i64 0), .sl [], .lit (.int .i64 0), .sl [], .lit (.int .i64 0), .lit (.bool false), .lit (.bool false), .lit (.bool false), .lit (.int .i64 0), .lit (.int .i64 0), .lit (.int .i64 0), .lit (.int .i64 0), .lit (.int .i64 0), .lit (.int .i64 0), .sl [], .sl [], .lit (.int .i64 0), .sl [], .lit (.int .i64 0), .lit (.bool false), .lit (.int .i64 0), .lit (.int .i64 0), .lit (.int .i64 0), .lit (.int .i64 0), .lit (.int .i64 0), .lit (.int .i64 0), .sl [], .lit (.int .i64 0), .lit (.int .i64 0), .lit (.int .i64 0), .sl [], .lit (.int .i64 0), .sl [], .lit (.int .i64 0), .sl [], .lit (.int .i64 0), .sl [], .lit (.int .i64 0), .lit (.bool false), .lit (.bool false), .lit (.bool false), .lit (.int .i64 0), .lit (.int .i64 0), .lit (.int .i64 0), .lit (.int .i64 0), .lit (.int .i64 0), .lit (.int .i64 0), .sl [], .sl [], .lit (.int .i64 0), .sl [], .sl [], .sl [], .sl []], []⟩ := by kernel_rfl
@[go_sem] theorem ti116 : tiOf Tryz.prog 116 = some ⟨.struct [(3, 0), (3, 1), (101, 2), (47, 8)], 11, 136, [.lit (.int .i64 0), .lit (.int .i64 0), .lit (.int .i64 0), .lit (.int .i64 0), .lit (.int .i64 0), .sl [], .lit (.int .i64 0), .sl [], .lit (.int .i64 0), .lit (.int .i64 0), .sl []], []⟩ := by kernel_rfl
@[go_sem] theorem ti121 : tiOf Tryz.prog 121 = some ⟨.other, 1, 8, [.lit .nilFunc], []⟩ := by kernel_rfl
@[go_sem] theorem ti131 : tiOf Tryz.prog 131 = some ⟨.pointer 53, 1, 8, [.lit (.pointer none)], []⟩ := by kernel_rfl
@[go_sem] theorem ti134 : tiOf Tryz.prog 134 = some ⟨.struct [(3, 0), (3, 1), (3, 2), (73, 3)], 7, 80, [.lit (.int .i64 0), .lit (.int .i64 0), .lit (.int .i64 0), .lit (.int .i64 0), .lit (.string ⟨#[]⟩), .lit (.int .i64 0), .sl []], []⟩ := by kernel_rfl
@[go_sem] theorem ti135 : tiOf Tryz.prog 135 = some ⟨.other, 1, 8, [.lit .nilFunc], []⟩ := by kernel_rfl
@[go_sem] theorem ti141 : tiOf Tryz.prog 141 = some ⟨.pointer 110, 1, 8, [.lit (.pointer none)], []⟩ := by kernel_rfl
@[go_sem] theorem ti144 : tiOf Tryz.prog 144 = some ⟨.struct [(3, 0), (3, 1), (3, 2), (3, 3), (3, 4), (3, 5), (4, 6), (3, 7), (45, 8), (101, 9)], 15, 168, [.lit (.int .i64 0), .lit (.int .i64 0), .lit (.int .i64 0), .lit (.int .i64 0), .lit (.int .i64 0), .lit (.int .i64 0), .lit (.bool false), .lit (.int .i64 0), .sl [], .lit (.int .i64 0), .lit (.int .i64 0), .lit (.int .i64 0), .sl [], .lit (.int .i64 0), .sl []], []⟩ := by kernel_rfl
@[go_sem] theorem ti151 : tiOf Tryz.prog 151 = some ⟨.struct [(9, 0), (9, 1)], 2, 32, [.lit (.string ⟨#[]⟩), .lit (.string ⟨#[]⟩)], [.string, .string]⟩ := by kernel_rfl
@[go_sem] theorem ti154 : tiOf Tryz.prog 154 = some ⟨.struct [(9, 0), (3, 1)], 2, 24, [.lit (.string ⟨#[]⟩), .lit (.int .i64 0)], [.string, .int .i64]⟩ := by kernel_rfl
@[go_sem] theorem ti160 : tiOf Tryz.prog 160 = some ⟨.pointer 163, 1, 8, [.lit (.pointer none)], []⟩ := by kernel_rfl
@[go_sem] theorem ti163 : tiOf Tryz.prog 163 = some ⟨.struct [(50, 0), (3, 2), (4, 3)], 4, 48, [.lit (.int .i64 0), .sl [], .lit (.int .i64 0), .lit (.bool false)], []⟩ := by kernel_rfl
@[go_sem] theorem ti165 : tiOf Tryz.prog 165 = some ⟨.other, 1, 8, [.lit .nilFunc], []⟩ := by kernel_rfl
@[go_sem] theorem ti176 : tiOf Tryz.prog 176 = some ⟨.struct [(3, 0), (3, 1), (29, 2)], 9, 96, [.lit (.int .i64 0), .lit (.int .i64 0), .lit (.int .i64 0), .lit (.int .i64 0), .lit (.int .i64 0), .lit (.string ⟨#[]⟩), .lit (.string ⟨#[]⟩), .lit (.string ⟨#[]⟩), .lit (.int .i64 0)], [.int .i64, .int .i64, .int .i64, .int .i64, .int .i64, .string, .string, .string, .int .i64]⟩ := by kernel_rfl
@[go_sem] theorem ti187 : tiOf Tryz.prog 187 = some ⟨.other, 1, 8, [.lit .nilFunc], []⟩ := by kernel_rfl
@[go_sem] theorem ti199 : tiOf Tryz.prog 199 = some ⟨.struct [(3, 0), (3, 1), (3, 2), (3, 3), (64, 4), (101, 14)], 20, 216, [.lit (.int .i64 0), .lit (.int .i64 0), .lit (.int .i64 0), .lit (.int .i64 0), .lit (.int .i64 0), .lit (.int .i64 0), .lit (.bool false), .lit (.int .i64 0), .lit (.int .i64 0), .lit (.int .i64 0), .lit (.string ⟨#[]⟩), .lit (.string ⟨#[]⟩), .lit (.string ⟨#[]⟩), .lit (.int .i64 0), .lit (.int .i64 0), .lit (.int .i64 0), .lit (.int .i64 0), .sl [], .lit (.int .i64 0), .sl []], []⟩ := by kernel_rfl
@[go_sem] theorem ti214 : tiOf Tryz.prog 214 = some ⟨.slice 199, 1, 24, [.sl []], []⟩ := by kernel_rfl
@[go_sem] theorem ti220 : tiOf Tryz.prog 220 = some ⟨.int .u64, 1, 8, [.lit (.int .u64 0)], []⟩ := by kernel_rfl
@[go_sem] theorem ti223 : tiOf Tryz.prog 223 = some ⟨.other, 1, 8, [.lit .nilFunc], []⟩ := by kernel_rfl
@[go_sem] theorem ti225 : tiOf Tryz.prog 225 = some ⟨.other, 1, 8, [.lit .nilFunc], []⟩ := by kernel_rfl
@[go_sem] theorem ti227 : tiOf Tryz.prog 227 = some ⟨.other, 1, 8, [.lit .nilFunc], []⟩ := by kernel_rfl
@[go_sem] theorem ti229 : tiOf Tryz.prog 229 = some ⟨.other, 1, 8, [.lit .nilFunc], []⟩ := by kernel_rfl
@[go_sem] theorem ti231 : tiOf Tryz.prog 231 = some ⟨.other, 1, 8, [.lit .nilFunc], []⟩ := by kernel_rfl
@[go_sem] theorem ti236 : tiOf Tryz.prog 236 = some ⟨.other, 1, 8, [.lit .nilFunc], []⟩ := by kernel_rfl
@[go_sem] theorem ti243 : tiOf Tryz.prog 243 = some ⟨.pointer 91, 1, 8, [.lit (.pointer none)], []⟩ := by kernel_rfl
@[go_sem] theorem ti274 : tiOf Tryz.prog 274 = some ⟨.pointer 276, 1, 8, [.lit (.pointer none)], []⟩ := by kernel_rfl
@[go_sem] theorem ti276 : tiOf Tryz.prog 276 = some ⟨.struct [(105, 0)], 1, 24, [.sl []], []⟩ := by kernel_rfl
@[go_sem] theorem ti279 : tiOf Tryz.prog 279 = some ⟨.pointer 281, 1, 8, [.lit (.pointer none)], []⟩ := by kernel_rfl
@[go_sem] theorem ti281 : tiOf Tryz.prog 281 = some ⟨.struct [(105, 0), (4, 1)], 2, 32, [.sl [], .lit (.bool false)], []⟩ := by kernel_rfl
@[go_sem] theorem ti298 : tiOf Tryz.prog 298 = some ⟨.slice 105, 1, 24, [.sl []], []⟩ := by kernel_rfl
@[go_sem] theorem ti301 : tiOf Tryz.prog 301 = some ⟨.int .u64, 1, 8, [.lit (.int .u64 0)], []⟩ := by kernel_rfl
@[go_sem] theorem u8_5 : isU8 Tryz.prog 5 = true := by kernel_rfl
@[go_sem] theorem en3 : enters Tryz.prog 3 = true := by kernel_rfl
@[go_sem] theorem en4 : enters Tryz.prog 4 = true := by kernel_rfl
@[go_sem] theorem en5 : enters Tryz.prog 5 = true := by kernel_rfl
@[go_sem] theorem en6 : enters Tryz.prog 6 = true := by kernel_rfl
@[go_sem] theorem en7 : enters Tryz.prog 7 = true := by kernel_rfl
@[go_sem] theorem en8 : enters Tryz.prog 8 = true := by kernel_rfl
@[go_sem] theorem en9 : enters Tryz.prog 9 = true := by kernel_rfl
@[go_sem] theorem en10 : enters Tryz.prog 10 = true := by kernel_rfl
@[go_sem] theorem en11 : enters Tryz.prog 11 = true := by kernel_rfl
@[go_sem] theorem en12 : enters Tryz.prog 12 = true := by kernel_rfl
@[go_sem] theorem en13 : enters Tryz.prog 13 = true := by kernel_rfl
@[go_sem] theorem en14 : enters Tryz.prog 14 = true := by kernel_rfl
@[go_sem] theorem en15 : enters Tryz.prog 15 = true := by kernel_rfl
@[go_sem] theorem en16 : enters Tryz.prog 16 = true := by kernel_rfl
@[go_sem] theorem en17 : enters Tryz.prog 17 = true := by kernel_rfl
@[go_sem] theorem en18 : enters Tryz.prog 18 = true := by kernel_rfl
@[go_sem] theorem en19 : enters Tryz.prog 19 = true := by kernel_rfl
@[go_sem] theorem en20 : enters Tryz.prog 20 = true := by kernel_rfl
@[go_sem] theorem en21 : enters Tryz.prog 21 = true := by kernel_rfl
@[go_sem] theorem en22 : enters Tryz.prog 22 = true := by kernel_rfl
@[go_sem] theorem en23 : enters Tryz.prog 23 = true := by kernel_rfl
@[go_sem] theorem en24 : enters Tryz.prog 24 = true := by kernel_rfl
@[go_sem] theorem en25 : enters Tryz.prog 25 = true := by kernel_rfl
@[go_sem] theorem en26 : enters Tryz.prog 26 = true := by kernel_rfl
@[go_sem] theorem en27 : enters Tryz.prog 27 = true := by kernel_rfl
@[go_sem] theorem en28 : enters Tryz.prog 28 = true := by kernel_rfl
@[go_sem] theorem en29 : enters Tryz.prog 29 = true := by kernel_rfl
@[go_sem] theorem en30 : enters Tryz.prog 30 = true := by kernel_rfl
@[go_sem] theorem en31 : enters Tryz.prog 31 = true := by kernel_rfl
@[go_sem] theorem en32 : enters Tryz.prog 32 = true := by kernel_rfl
@[go_sem] theorem en33 : enters Tryz.prog 33 = true := by kernel_rfl
@[go_sem] theorem en34 : enters Tryz.prog 34 = true := by kernel_rfl
@[go_sem] theorem en35 : enters Tryz.prog 35 = true := by kernel_rfl
@[go_sem] theorem en36 : enters Tryz.prog 36 = true := by kernel_rfl
@[go_sem] theorem en37 : enters Tryz.prog 37 = true := by kernel_rfl
@[go_sem] theorem en38 : enters Tryz.prog 38 = true := by kernel_rfl
@[go_sem] theorem en39 : enters Tryz.prog 39 = true := by kernel_rfl
@[go_sem] theorem en40 : enters Tryz.prog 40 = true := by kernel_rfl
@[go_sem] theorem en41 : enters Tryz.prog 41 = true := by kernel_rfl
@[go_sem] theorem en42 : enters Tryz.prog 42 = true := by kernel_rfl
@[go_sem] theorem en43 : enters Tryz.prog 43 = true := by kernel_rfl
@[go_sem] theorem en44 : enters Tryz.prog 44 = true := by kernel_rfl
@[go_sem] theorem en45 : enters Tryz.prog 45 = true := by kernel_rfl
@[go_sem] theorem en46 : enters Tryz.prog 46 = true := by kernel_rfl
@[go_sem] theorem en47 : enters Tryz.prog 47 = true := by kernel_rfl
@[go_sem] theorem en48 : enters Tryz.prog 48 = true := by kernel_rfl
@[go_sem] theorem en49 : enters Tryz.prog 49 = true := by kernel_rfl
@[go_sem] theorem en50 : enters Tryz.prog 50 = true := by kernel_rfl
@[go_sem] theorem en51 : enters Tryz.prog 51 = true := by kernel_rfl
@[go_sem] theorem en52 : enters Tryz.prog 52 = true := by kernel_rfl
@[go_sem] theorem en53 : enters Tryz.prog 53 = true := by kernel_rfl
@[go_sem] theorem en54 : enters Tryz.prog 54 = true := by kernel_rfl
@[go_sem] theorem en55 : enters Tryz.prog 55 = true := by kernel_rfl
@[go_sem] theorem en56 : enters Tryz.prog 56 = true := by kernel_rfl
@[go_sem] theorem en57 : enters Tryz.prog 57 = true := by kernel_rfl
@[go_sem] theorem en58 : enters Tryz.prog 58 = true := by kernel_rfl
@[go_sem] theorem en59 : enters Tryz.prog 59 = true := by kernel_rfl
@[go_sem] theorem en60 : enters Tryz.prog 60 = true := by kernel_rfl
@[go_sem] theorem en61 : enters Tryz.prog 61 = true := by kernel_rfl
@[go_sem] theorem en62 : enters Tryz.prog 62 = true := by kernel_rfl
@[go_sem] theorem en63 : enters Tryz.prog 63 = true := by kernel_rfl
@[go_sem] theorem en64 : enters Tryz.prog 64 = true := by kernel_rfl
@[go_sem] theorem en65 : enters Tryz.prog 65 = true := by kernel_rfl
@[go_sem] theorem en66 : enters Tryz.prog 66 = true := by kernel_rfl
@[go_sem] theorem en67 : enters Tryz.prog 67 = true := by kernel_rfl
@[go_sem] theorem en68 : enters Tryz.prog 68 = true := by kernel_rfl
@[go_sem] theorem en69 : enters Tryz.prog 69 = true := by kernel_rfl
@[go_sem] theorem en70 : enters Tryz.prog 70 = true := by kernel_rfl
@[go_sem] theorem en71 : enters Tryz.prog 71 = true := by kernel_rfl
@[go_sem] theorem en72 : enters Tryz.prog 72 = true := by kernel_rfl
@[go_sem] theorem en73 : enters Tryz.prog 73 = true := by kernel_rfl
@[go_sem] theorem en74 : enters Tryz.prog 74 = true := by kernel_rfl
@[go_sem] theorem en75 : enters Tryz.prog 75 = true := by kernel_rfl
@[go_sem] theorem en76 : enters Tryz.prog 76 = true := by kernel_rfl
@[go_sem] theorem en77 : enters Tryz.prog 77 = true := by kernel_rfl
@[go_sem] theorem en78 : enters Tryz.prog 78 = true := by kernel_rfl
@[go_sem] theorem en79 : enters Tryz.prog 79 = true := by kernel_rfl
@[go_sem] theorem en80 : enters Tryz.prog 80 = true := by kernel_rfl
@[go_sem] theorem en81 : enters Tryz.prog 81 = true := by kernel_rfl
@[go_sem] theorem en82 : enters Tryz.prog 82 = true := by kernel_rfl
@[go_sem] theorem en83 : enters Tryz.prog 83 = true := by kernel_rfl
@[go_sem] theorem en84 : enters Tryz.prog 84 = true := by kernel_rfl
@[go_sem] theorem en85 : enters Tryz.prog 85 = true := by kernel_rfl
@[go_sem] theorem en86 : enters Tryz.prog 86 = true := by kernel_rfl
@[go_sem] theorem en87 : enters Tryz.prog 87 = true := by kernel_rfl
@[go_sem] theorem en88 : enters Tryz.prog 88 = true := by kernel_rfl
@[go_sem] theorem en89 : enters Tryz.prog 89 = true := by kernel_rfl
@[go_sem] theorem en90 : enters Tryz.prog 90 = true := by kernel_rfl
@[go_sem] theorem en91 : enters Tryz.prog 91 = true := by kernel_rfl
@[go_sem] theorem en92 : enters Tryz.prog 92 = true := by kernel_rfl
@[go_sem] theorem en93 : enters Tryz.prog 93 = true := by kernel_rfl
@[go_sem] theorem en94 : enters Tryz.prog 94 = true := by kernel_rfl
@[go_sem] theorem en95 : enters Tryz.prog 95 = true := by kernel_rfl
@[go_sem] theorem en96 : enters Tryz.prog 96 = true := by kernel_rfl
@[go_sem] theorem en97 : enters Tryz.prog 97 = true := by kernel_rfl
@[go_sem] theorem en98 : enters Tryz.prog 98 = true := by kernel_rfl
@[go_sem] theorem en99 : enters Tryz.prog 99 = true := by kernel_rfl
@[go_sem] theorem en100 : enters Tryz.prog 100 = true := by kernel_rfl
@[go_sem] theorem en101 : enters Tryz.prog 101 = true := by kernel_rfl
@[go_sem] theorem en102 : enters Tryz.prog 102 = true := by kernel_rfl
@[go_sem] theorem en103 : enters Tryz.prog 103 = true := by kernel_rfl
@[go_sem] theorem en104 : enters Tryz.prog 104 = true := by kernel_rfl
@[go_sem] theorem en105 : enters Tryz.prog 105 = true := by kernel_rfl
@[go_sem] theorem en106 : enters Tryz.prog 106 = true := by kernel_rfl
@[go_sem] theorem en107 : enters Tryz.prog 107 = true := by kernel_rfl
@[go_sem] theorem en108 : enters Tryz.prog 108 = true := by kernel_rfl
@[go_sem] theorem en109 : enters Tryz.prog 109 = true := by kernel_rfl
@[go_sem] theorem en110 : enters Tryz.prog 110 = true := by kernel_rfl
@[go_sem] theorem en111 : enters Tryz.prog 111 = true := by kernel_rfl
@[go_sem] theorem en112 : enters Tryz.prog 112 = true := by kernel_rfl
@[go_sem] theorem en113 : enters Tryz.prog 113 = true := by kernel_rfl
@[go_sem] theorem en114 : enters Tryz.prog 114 = true := by kernel_rfl
@[go_sem] theorem en115 : enters Tryz.prog 115 = true := by kernel_rfl
@[go_sem] theorem en116 : enters Tryz.prog 116 = true := by kernel_rfl
@[go_sem] theorem en117 : enters Tryz.prog 117 = true := by kernel_rfl
@[go_sem] theorem en118 : enters Tryz.prog 118 = true := by kernel_rfl
@[go_sem] theorem en119 : enters Tryz.prog 119 = true := by kernel_rfl
@[go_sem] theorem en120 : enters Tryz.prog 120 = true := by kernel_rfl
@[go_sem] theorem en121 : enters Tryz.prog 121 = true := by kernel_rfl
@[go_sem] theorem en122 : enters Tryz.prog 122 = true := by kernel_rfl
@[go_sem] theorem en123 : enters Tryz.prog 123 = true := by kernel_rfl
@[go_sem] theorem en124 : enters Tryz.prog 124 = true := by kernel_rfl
@[go_sem] theorem en125 : enters Tryz.prog 125 = true := by kernel_rfl
@[go_sem] theorem en126 : enters Tryz.prog 126 = true := by kernel_rfl
@[go_sem] theorem en127 : enters Tryz.prog 127 = true := by kernel_rfl
@[go_sem] theorem en128 : enters Tryz.prog 128 = true := by kernel_rfl
@[go_sem] theorem en129 : enters Tryz.prog 129 = true := by kernel_rfl
@[go_sem] theorem en130 : enters Tryz.prog 130 = true := by kernel_rfl
@[go_sem] theorem en131 : enters Tryz.prog 131 = true := by kernel_rfl
@[go_sem] theorem en132 : enters Tryz.prog 132 = true := by kernel_rfl
@[go_sem] theorem en133 : enters Tryz.prog 133 = true := by kernel_rfl
@[go_sem] theorem en134 : enters Tryz.prog 134 = true := by kernel_rfl
@[go_sem] theorem en135 : enters Tryz.prog 135 = true := by kernel_rfl
@[go_sem] theorem en136 : enters Tryz.prog 136 = true := by kernel_rfl
@[go_sem] theorem en137 : enters Tryz.prog 137 = true := by kernel_rfl
@[go_sem] theorem en138 : enters Tryz.prog 138 = true := by kernel_rfl
@[go_sem] theorem en139 : enters Tryz.prog 139 = true := by kernel_rfl
@[go_sem] theorem en140 : enters Tryz.prog 140 = true := by kernel_rfl
@[go_sem] theorem en141 : enters Tryz.prog 141 = true := by kernel_rfl
@[go_sem] theorem en142 : enters Tryz.prog 142 = true := by kernel_rfl
@[go_sem] theorem en143 : enters Tryz.prog 143 = true := by kernel_rfl
@[go_sem] theorem en144 : enters Tryz.prog 144 = true := by kernel_rfl
@[go_sem] theorem en145 : enters Tryz.prog 145 = true := by kernel_rfl
@[go_sem] theorem en146 : enters Tryz.prog 146 = true := by kernel_rfl
@[go_sem] theorem en147 : enters Tryz.prog 147 = true := by kernel_rfl
@[go_sem] theorem en148 : enters Tryz.prog 148 = true := by kernel_rfl
@[go_sem] theorem en149 : enters Tryz.prog 149 = true := by kernel_rfl
@[go_sem] theorem en150 : enters Tryz.prog 150 = true := by kernel_rfl
@[go_sem] theorem en151 : enters Tryz.prog 151 = true := by kernel_rfl
@[go_sem] theorem en152 : enters Tryz.prog 152 = true := by kernel_rfl
@[go_sem] theorem en153 : enters Tryz.prog 153 = true := by kernel_rfl
@[go_sem] theorem en154 : enters Tryz.prog 154 = true := by kernel_rfl
@[go_sem] theorem en155 : enters Tryz.prog 155 = true := by kernel_rfl
@[go_sem] theorem en156 : enters Tryz.prog 156 = true := by kernel_rfl
@[go_sem] theorem en157 : enters Tryz.prog 157 = true := by kernel_rfl
@[go_sem] theorem en158 : enters Tryz.prog 158 = true := by kernel_rfl
@[go_sem] theorem en159 : enters Tryz.prog 159 = true := by kernel_rfl
@[go_sem] theorem en160 : enters Tryz.prog 160 = true := by kernel_rfl
@[go_sem] theorem en161 : enters Tryz.prog 161 = true := by kernel_rfl
@[go_sem] theorem en162 : enters Tryz.prog 162 = true := by kernel_rfl
@[go_sem] theorem en163 : enters Tryz.prog 163 = true := by kernel_rfl
@[go_sem] theorem en164 : enters Tryz.prog 164 = true := by kernel_rfl
@[go_sem] theorem en165 : enters Tryz.prog 165 = true := by kernel_rfl
@[go_sem] theorem en166 : enters Tryz.prog 166 = true := by kernel_rfl
@[go_sem] theorem en167 : enters Tryz.prog 167 = true := by kernel_rfl
@[go_sem] theorem en168 : enters Tryz.prog 168 = true := by kernel_rfl
@[go_sem] theorem en169 : enters Tryz.prog 169 = true := by kernel_rfl
@[go_sem] theorem en170 : enters Tryz.prog 170 = true := by kernel_rfl
@[go_sem] theorem en171 : enters Tryz.prog 171 = true := by kernel_rfl
@[go_sem] theorem en172 : enters Tryz.prog 172 = true := by kernel_rfl
@[go_sem] theorem en173 : enters Tryz.prog 173 = true := by kernel_rfl
@[go_sem] theorem en174 : enters Tryz.prog 174 = true := by kernel_rfl
@[go_sem] theorem en175 : enters Tryz.prog 175 = true := by kernel_rfl
@[go_sem] theorem en176 : enters Tryz.prog 176 = true := by kernel_rfl
@[go_sem] theorem en177 : enters Tryz.prog 177 = true := by kernel_rfl
@[go_sem] theorem en178 : enters Tryz.prog 178 = true := by kernel_rfl
@[go_sem] theorem en179 : enters Tryz.prog 179 = true := by kernel_rfl
@[go_sem] theorem en181 : enters Tryz.prog 181 = true := by kernel_rfl
@[go_sem] theorem en182 : enters Tryz.prog 182 = true := by kernel_rfl
@[go_sem] theorem en183 : enters Tryz.prog 183 = true := by kernel_rfl
@[go_sem] theorem en184 : enters Tryz.prog 184 = true := by kernel_rfl
@[go_sem] theorem en185 : enters Tryz.prog 185 = true := by kernel_rfl
@[go_sem] theorem en186 : enters Tryz.prog 186 = true := by kernel_rfl
@[go_sem] theorem en187 : enters Tryz.prog 187 = true := by kernel_rfl
@[go_sem] theorem en188 : enters Tryz.prog 188 = true := by kernel_rfl
@[go_sem] theorem en189 : enters Tryz.prog 189 = true := by kernel_rfl
@[go_sem] theorem en190 : enters Tryz.prog 190 = true := by kernel_rfl
@[go_sem] theorem en191 : enters Tryz.prog 191 = true := by kernel_rfl
@[go_sem] theorem en192 : enters Tryz.prog 192 = true := by kernel_rfl
@[go_sem] theorem en193 : enters Tryz.prog 193 = true := by kernel_rfl
@[go_sem] theorem en194 : enters Tryz.prog 194 = true := by kernel_rfl
@[go_sem] theorem en195 : enters Tryz.prog 195 = true := by kernel_rfl
@[go_sem] theorem en196 : enters Tryz.prog 196 = true := by kernel_rfl
@[go_sem] theorem en197 : enters Tryz.prog 197 = true := by kernel_rfl
@[go_sem] theorem en198 : enters Tryz.prog 198 = true := by kernel_rfl
@[go_sem] theorem en199 : enters Tryz.prog 199 = true := by kernel_rfl
@[go_sem] theorem en200 : enters Tryz.prog 200 = true := by kernel_rfl
@[go_sem] theorem en201 : enters Tryz.prog 201 = true := by kernel_rfl
@[go_sem] theorem en202 : enters Tryz.prog 202 = true := by kernel_rfl
@[go_sem] theorem en203 : enters Tryz.prog 203 = true := by kernel_rfl
@[go_sem] theorem en205 : enters Tryz.prog 205 = true := by kernel_rfl
@[go_sem] theorem en206 : enters Tryz.prog 206 = true := by kernel_rfl
@[go_sem] theorem en207 : enters Tryz.prog 207 = true := by kernel_rfl
@[go_sem] theorem en208 : enters Tryz.prog 208 = true := by kernel_rfl
@[go_sem] theorem en209 : enters Tryz.prog 209 = true := by kernel_rfl
@[go_sem] theorem en210 : enters Tryz.prog 210 = true := by kernel_rfl
@[go_sem] theorem en211 : enters Tryz.prog 211 = true := by kernel_rfl
@[go_sem] theorem en212 : enters Tryz.prog 212 = true := by kernel_rfl
@[go_sem] theorem en213 : enters Tryz.prog 213 = true := by kernel_rfl
@[go_sem] theorem en214 : enters Tryz.prog 214 = true := by kernel_rfl
@[go_sem] theorem en216 : enters Tryz.prog 216 = true := by kernel_rfl
@[go_sem] theorem en217 : enters Tryz.prog 217 = true := by kernel_rfl
@[go_sem] theorem en218 : enters Tryz.prog 218 = true := by kernel_rfl
@[go_sem] theorem en219 : enters Tryz.prog 219 = true := by kernel_rfl
@[go_sem] theorem en220 : enters Tryz.prog 220 = true := by kernel_rfl
@[go_sem] theorem en221 : enters Tryz.prog 221 = true := by kernel_rfl
@[go_sem] theorem en222 : enters Tryz.prog 222 = true := by kernel_rfl
@[go_sem] theorem en224 : enters Tryz.prog 224 = true := by kernel_rfl
@[go_sem] theorem en226 : enters Tryz.prog 226 = true := by kernel_rfl
@[go_sem] theorem en227 : enters Tryz.prog 227 = true := by kernel_rfl
@[go_sem] theorem en228 : enters Tryz.prog 228 = true := by kernel_rfl
@[go_sem] theorem en230 : enters Tryz.prog 230 = true := by kernel_rfl
@[go_sem] theorem en232 : enters Tryz.prog 232 = true := by kernel_rfl
@[go_sem] theorem en233 : enters Tryz.prog 233 = true := by kernel_rfl
@[go_sem] theorem en236 : enters Tryz.prog 236 = true := by kernel_rfl
@[go_sem] theorem en238 : enters Tryz.prog 238 = true := by kernel_rfl
@[go_sem] theorem en239 : enters Tryz.prog 239 = true := by kernel_rfl
@[go_sem] theorem en243 : enters Tryz.prog 243 = true := by kernel_rfl
abbrev ac_rostrumtop_acts := CC.of Tryz.f15 []
abbrev ac_rostrumkeep_Picked := CC.of Tryz.f16 []
abbrev ac_crew_Run := CC.of Tryz.f17 [(14, [([0, 1, 2, 3, 4, 5, 6, 7, 8], [])]), (22, [([0, 1, 2, 3, 4, 5, 6, 7, 8, 9, 10, 11], [(3, 10), (4, 10), (8, 10)])]), (33, [([0, 1, 2, 3, 4, 5, 6, 7, 8, 9, 10, 11, 12], [(2, 9), (2, 11), (5, 9), (5, 11), (8, 11)]), ([0, 1, 2, 3, 4, 5, 6, 7, 8, 11, 9, 10, 12], [(2, 9), (2, 10), (5, 9), (5, 10), (8, 9)])]), (34, [([0, 1, 2, 3, 4, 5, 6, 7, 8, 9, 10, 11, 12, 13, 14, 15, 16, 17, 18, 19], [(1, 14), (1, 16), (3, 14), (5, 14), (7, 14), (10, 14), (11, 14)])])]
abbrev ac_rostrumtop_act := CC.of Tryz.f29 []
abbrev ac_rostrumkeep_picked := CC.of Tryz.f33 []
abbrev ac_lines_Check := CC.of Tryz.f34 []
abbrev ac_client_CheckCall := CC.of Tryz.f46 []
abbrev ac_rostrumtop_call := CC.of Tryz.f54 [(4, [([0, 1, 2, 3, 4, 5, 6, 7, 8, 9], [(6, 3)])])]
abbrev ac_lines_has := CC.of Tryz.f55 []
abbrev ac_client_number := CC.of Tryz.f66 []
abbrev ac_value_CheckCommand := CC.of Tryz.f67 [(18, [([0, 1, 2, 3, 4, 5, 6, 7], [(3, 5)])]), (23, [([0, 1, 2, 3, 4, 5, 6, 7], [(3, 5)])])]
abbrev ac_rostrumkeep_Command := CC.of Tryz.f74 [(1, [([0, 1, 2, 3, 4, 5, 6, 7, 8, 9], [(1, 8), (5, 2), (5, 8)]), ([0, 1, 2, 3, 4, 5, 8, 6, 7, 9], [(1, 6), (5, 2), (5, 6)]), ([0, 1, 4, 5, 8, 2, 3, 6, 7, 9], [(1, 4), (3, 4), (3, 5)])])]
abbrev ac_value_field := CC.of Tryz.f103 []
abbrev ac_value_text := CC.of Tryz.f104 []
abbrev ac_value_count := CC.of Tryz.f105 []
abbrev ac_rostrumkeep_some := CC.of Tryz.f112 []
abbrev ac_rostrumkeep_cut := CC.of Tryz.f113 []
end Go.Proofs.YtkkleopmambcnaaGreatDoor
set_option linter.unusedVariables false
set_option linter.unusedSimpArgs false
set_option maxRecDepth 100000
set_option maxHeartbeats 8000000
namespace Go.Proofs.YtkkleopmambcnaaGreatDoor
open Go Go.RowKit Go.Proofs.AE
theorem mixed : Tryz.prog.follows .mixedOrders = true := by kernel_rfl
variable {G : Nat → AV}
abbrev iV (n : Int) : AV := .one (.v (.lit (.int .i64 n)))
abbrev sV (s : ByteArray) : AV := .one (.v (.lit (.string s)))
abbrev bV (b : Bool) : AV := .one (.v (.lit (.bool b)))
abbrev iC (n : Int) : C := .v (.lit (.int .i64 n))
abbrev sC (s : ByteArray) : C := .v (.lit (.string s))
def okField (s : ByteArray) : Bool := decide (1 ≤ (s.size : Int)) && decide ((s.size : Int) ≤ 12)
def okText (s : ByteArray) : Bool := decide ((s.size : Int) ≤ 20)
def okCount (n : Int) : Bool := decide (-1099511627776 ≤ n) && decide (n ≤ 1099511627776)
def okNumber (n : Int) : Bool := decide (1 ≤ n) && decide (n ≤ 1048576)
theorem number_c (n : Int) : PCall Tryz.prog G 66 [iV n] (bV (okNumber n)) := by
  refine pcallc mixed Tryz.func66 ac_client_number ?_
  unfold okNumber
  simp -dsimp [go_sem]
  refine Cnd.intro (fun h => ?_) (fun h => ?_) <;> simp -dsimp [go_sem, h]
theorem field_c (s : ByteArray) : PCall Tryz.prog G 103 [sV s] (bV (okField s)) := by
  refine pcallc mixed Tryz.func103 ac_value_field ?_
  unfold okField
  simp -dsimp [go_sem]
  refine Cnd.intro (fun h => ?_) (fun h => ?_) <;> simp -dsimp [go_sem, h]
theorem text_c (s : ByteArray) : PCall Tryz.prog G 104 [sV s] (bV (okText s)) := by
  refine pcallc mixed Tryz.func104 ac_value_text ?_
  unfold okText
  simp -dsimp [go_sem]
theorem count_c (n : Int) : PCall Tryz.prog G 105 [iV n] (bV (okCount n)) := by
  refine pcallc mixed Tryz.func105 ac_value_count ?_
  unfold okCount
  simp -dsimp [go_sem]
  refine Cnd.intro (fun h => ?_) (fun h => ?_) <;> simp -dsimp [go_sem, h]
def pk (n m : Int) : Int := (if n < 0 then -(n + 1) else n).tmod m
theorem pk_range {n m : Int} (hm : 0 < m) : 0 ≤ pk n m ∧ pk n m < m := by
  unfold pk
  have h0 : 0 ≤ (if n < 0 then -(n + 1) else n) := by split <;> omega
  rw [Int.tmod_eq_emod_of_nonneg h0]
  exact ⟨Int.emod_nonneg _ (by omega), Int.emod_lt_of_pos _ hm⟩
def i64 (n : Int) : Prop := -9223372036854775808 ≤ n ∧ n ≤ 9223372036854775807
theorem picked_c (n m : Int) (hn : i64 n) (hm : m ≠ 0) : PCall Tryz.prog G 33 [iV n, iV m] (iV (pk n m)) := by
  refine pcallc mixed Tryz.func33 ac_rostrumkeep_picked ?_
  unfold pk
  unfold i64 at hn
  simp -dsimp [go_sem]
  refine Cnd.intro (fun h => ?_) (fun h => ?_)
  · simp at h
    simp -dsimp [go_sem, h, hm]
    rw [IntWalk.i64_in (n + 1) (by omega), IntWalk.i64_in _ (by omega), Int.neg_tmod]
  · simp at h
    have h' : ¬ n < 0 := by omega
    simp -dsimp [go_sem, h', hm]
def formOk (k : Int) (key field text : ByteArray) (n : Int) : Bool :=
  (k != 22 || decide (key = ⟨#[]⟩)) && ((k == 4 || k == 5 || k == 6) || decide (field = ⟨#[]⟩)) && ((k == 1 || k == 4 || k == 7 || k == 8 || k == 11 || k == 12 || k == 13 || k == 14 || k == 15 || k == 16) || decide (text = ⟨#[]⟩)) && ((k == 3 || k == 14 || k == 20) || n == 0)
def checkCommand (k : Int) (key field text : ByteArray) (n : Int) : Int :=
  if k < 1 then 3 else if 22 < k then 3 else if formOk k key field text n = false then 8
  else if (k != 22 && !okField key || ((k == 4 || k == 5 || k == 6) && !okField field)) || !okText text then 1
  else if okCount n = false then 2 else 0
theorem check1_c (key field text : ByteArray) (n : Int) : PCall Tryz.prog G 67 [.agg [iC 1, sC key, sC field, sC text, iC n]] (iV (checkCommand 1 key field text n)) := by
  refine pcallc mixed Tryz.func67 ac_value_CheckCommand ?_
  repeat' (first | (with_reducible first | refine Cn (fun h => ?_) fun h => ?_ | refine And.intro ?_ ?_ | refine wR ?_ | exact wr _ _ | refine wa ?_ | apply awp_join | refine q (field_c _) ?_ | refine qd (field_c _) ?_ | refine qz (field_c _) ?_ | refine q (text_c _) ?_ | refine qd (text_c _) ?_ | refine qz (text_c _) ?_ | refine q (count_c _) ?_ | refine qd (count_c _) ?_ | refine qz (count_c _) ?_) | (with_reducible refine CallZ.z ?_) | simp -dsimp [go_sem])
  all_goals (try simp_all [checkCommand, formOk])
  all_goals (intros; first | (simp_all; done) | trace_state)
theorem check2_c (key field text : ByteArray) (n : Int) : PCall Tryz.prog G 67 [.agg [iC 2, sC key, sC field, sC text, iC n]] (iV (checkCommand 2 key field text n)) := by
  refine pcallc mixed Tryz.func67 ac_value_CheckCommand ?_
  repeat' (first | (with_reducible first | refine Cn (fun h => ?_) fun h => ?_ | refine And.intro ?_ ?_ | refine wR ?_ | exact wr _ _ | refine wa ?_ | apply awp_join | refine q (field_c _) ?_ | refine qd (field_c _) ?_ | refine qz (field_c _) ?_ | refine q (text_c _) ?_ | refine qd (text_c _) ?_ | refine qz (text_c _) ?_ | refine q (count_c _) ?_ | refine qd (count_c _) ?_ | refine qz (count_c _) ?_) | (with_reducible refine CallZ.z ?_) | simp -dsimp [go_sem])
  all_goals (try simp_all [checkCommand, formOk])
  all_goals (intros; first | (simp_all; done) | trace_state)
theorem check3_c (key field text : ByteArray) (n : Int) : PCall Tryz.prog G 67 [.agg [iC 3, sC key, sC field, sC text, iC n]] (iV (checkCommand 3 key field text n)) := by
  refine pcallc mixed Tryz.func67 ac_value_CheckCommand ?_
  repeat' (first | (with_reducible first | refine Cn (fun h => ?_) fun h => ?_ | refine And.intro ?_ ?_ | refine wR ?_ | exact wr _ _ | refine wa ?_ | apply awp_join | refine q (field_c _) ?_ | refine qd (field_c _) ?_ | refine qz (field_c _) ?_ | refine q (text_c _) ?_ | refine qd (text_c _) ?_ | refine qz (text_c _) ?_ | refine q (count_c _) ?_ | refine qd (count_c _) ?_ | refine qz (count_c _) ?_) | (with_reducible refine CallZ.z ?_) | simp -dsimp [go_sem])
  all_goals (try simp_all [checkCommand, formOk])
  all_goals (intros; first | (simp_all; done) | trace_state)
theorem check4_c (key field text : ByteArray) (n : Int) : PCall Tryz.prog G 67 [.agg [iC 4, sC key, sC field, sC text, iC n]] (iV (checkCommand 4 key field text n)) := by
  refine pcallc mixed Tryz.func67 ac_value_CheckCommand ?_
  repeat' (first | (with_reducible first | refine Cn (fun h => ?_) fun h => ?_ | refine And.intro ?_ ?_ | refine wR ?_ | exact wr _ _ | refine wa ?_ | apply awp_join | refine q (field_c _) ?_ | refine qd (field_c _) ?_ | refine qz (field_c _) ?_ | refine q (text_c _) ?_ | refine qd (text_c _) ?_ | refine qz (text_c _) ?_ | refine q (count_c _) ?_ | refine qd (count_c _) ?_ | refine qz (count_c _) ?_) | (with_reducible refine CallZ.z ?_) | simp -dsimp [go_sem])
  all_goals (try simp_all [checkCommand, formOk])
  all_goals (intros; first | (simp_all; done) | trace_state)
theorem check5_c (key field text : ByteArray) (n : Int) : PCall Tryz.prog G 67 [.agg [iC 5, sC key, sC field, sC text, iC n]] (iV (checkCommand 5 key field text n)) := by
  refine pcallc mixed Tryz.func67 ac_value_CheckCommand ?_
  repeat' (first | (with_reducible first | refine Cn (fun h => ?_) fun h => ?_ | refine And.intro ?_ ?_ | refine wR ?_ | exact wr _ _ | refine wa ?_ | apply awp_join | refine q (field_c _) ?_ | refine qd (field_c _) ?_ | refine qz (field_c _) ?_ | refine q (text_c _) ?_ | refine qd (text_c _) ?_ | refine qz (text_c _) ?_ | refine q (count_c _) ?_ | refine qd (count_c _) ?_ | refine qz (count_c _) ?_) | (with_reducible refine CallZ.z ?_) | simp -dsimp [go_sem])
  all_goals (try simp_all [checkCommand, formOk])
  all_goals (intros; first | (simp_all; done) | trace_state)
theorem check6_c (key field text : ByteArray) (n : Int) : PCall Tryz.prog G 67 [.agg [iC 6, sC key, sC field, sC text, iC n]] (iV (checkCommand 6 key field text n)) := by
  refine pcallc mixed Tryz.func67 ac_value_CheckCommand ?_
  repeat' (first | (with_reducible first | refine Cn (fun h => ?_) fun h => ?_ | refine And.intro ?_ ?_ | refine wR ?_ | exact wr _ _ | refine wa ?_ | apply awp_join | refine q (field_c _) ?_ | refine qd (field_c _) ?_ | refine qz (field_c _) ?_ | refine q (text_c _) ?_ | refine qd (text_c _) ?_ | refine qz (text_c _) ?_ | refine q (count_c _) ?_ | refine qd (count_c _) ?_ | refine qz (count_c _) ?_) | (with_reducible refine CallZ.z ?_) | simp -dsimp [go_sem])
  all_goals (try simp_all [checkCommand, formOk])
  all_goals (intros; first | (simp_all; done) | trace_state)
theorem check7_c (key field text : ByteArray) (n : Int) : PCall Tryz.prog G 67 [.agg [iC 7, sC key, sC field, sC text, iC n]] (iV (checkCommand 7 key field text n)) := by
  refine pcallc mixed Tryz.func67 ac_value_CheckCommand ?_
  repeat' (first | (with_reducible first | refine Cn (fun h => ?_) fun h => ?_ | refine And.intro ?_ ?_ | refine wR ?_ | exact wr _ _ | refine wa ?_ | apply awp_join | refine q (field_c _) ?_ | refine qd (field_c _) ?_ | refine qz (field_c _) ?_ | refine q (text_c _) ?_ | refine qd (text_c _) ?_ | refine qz (text_c _) ?_ | refine q (count_c _) ?_ | refine qd (count_c _) ?_ | refine qz (count_c _) ?_) | (with_reducible refine CallZ.z ?_) | simp -dsimp [go_sem])
  all_goals (try simp_all [checkCommand, formOk])
  all_goals (intros; first | (simp_all; done) | trace_state)
theorem check8_c (key field text : ByteArray) (n : Int) : PCall Tryz.prog G 67 [.agg [iC 8, sC key, sC field, sC text, iC n]] (iV (checkCommand 8 key field text n)) := by
  refine pcallc mixed Tryz.func67 ac_value_CheckCommand ?_
  repeat' (first | (with_reducible first | refine Cn (fun h => ?_) fun h => ?_ | refine And.intro ?_ ?_ | refine wR ?_ | exact wr _ _ | refine wa ?_ | apply awp_join | refine q (field_c _) ?_ | refine qd (field_c _) ?_ | refine qz (field_c _) ?_ | refine q (text_c _) ?_ | refine qd (text_c _) ?_ | refine qz (text_c _) ?_ | refine q (count_c _) ?_ | refine qd (count_c _) ?_ | refine qz (count_c _) ?_) | (with_reducible refine CallZ.z ?_) | simp -dsimp [go_sem])
  all_goals (try simp_all [checkCommand, formOk])
  all_goals (intros; first | (simp_all; done) | trace_state)
theorem check9_c (key field text : ByteArray) (n : Int) : PCall Tryz.prog G 67 [.agg [iC 9, sC key, sC field, sC text, iC n]] (iV (checkCommand 9 key field text n)) := by
  refine pcallc mixed Tryz.func67 ac_value_CheckCommand ?_
  repeat' (first | (with_reducible first | refine Cn (fun h => ?_) fun h => ?_ | refine And.intro ?_ ?_ | refine wR ?_ | exact wr _ _ | refine wa ?_ | apply awp_join | refine q (field_c _) ?_ | refine qd (field_c _) ?_ | refine qz (field_c _) ?_ | refine q (text_c _) ?_ | refine qd (text_c _) ?_ | refine qz (text_c _) ?_ | refine q (count_c _) ?_ | refine qd (count_c _) ?_ | refine qz (count_c _) ?_) | (with_reducible refine CallZ.z ?_) | simp -dsimp [go_sem])
  all_goals (try simp_all [checkCommand, formOk])
  all_goals (intros; first | (simp_all; done) | trace_state)
theorem check10_c (key field text : ByteArray) (n : Int) : PCall Tryz.prog G 67 [.agg [iC 10, sC key, sC field, sC text, iC n]] (iV (checkCommand 10 key field text n)) := by
  refine pcallc mixed Tryz.func67 ac_value_CheckCommand ?_
  repeat' (first | (with_reducible first | refine Cn (fun h => ?_) fun h => ?_ | refine And.intro ?_ ?_ | refine wR ?_ | exact wr _ _ | refine wa ?_ | apply awp_join | refine q (field_c _) ?_ | refine qd (field_c _) ?_ | refine qz (field_c _) ?_ | refine q (text_c _) ?_ | refine qd (text_c _) ?_ | refine qz (text_c _) ?_ | refine q (count_c _) ?_ | refine qd (count_c _) ?_ | refine qz (count_c _) ?_) | (with_reducible refine CallZ.z ?_) | simp -dsimp [go_sem])
  all_goals (try simp_all [checkCommand, formOk])
  all_goals (intros; first | (simp_all; done) | trace_state)
theorem check11_c (key field text : ByteArray) (n : Int) : PCall Tryz.prog G 67 [.agg [iC 11, sC key, sC field, sC text, iC n]] (iV (checkCommand 11 key field text n)) := by
  refine pcallc mixed Tryz.func67 ac_value_CheckCommand ?_
  repeat' (first | (with_reducible first | refine Cn (fun h => ?_) fun h => ?_ | refine And.intro ?_ ?_ | refine wR ?_ | exact wr _ _ | refine wa ?_ | apply awp_join | refine q (field_c _) ?_ | refine qd (field_c _) ?_ | refine qz (field_c _) ?_ | refine q (text_c _) ?_ | refine qd (text_c _) ?_ | refine qz (text_c _) ?_ | refine q (count_c _) ?_ | refine qd (count_c _) ?_ | refine qz (count_c _) ?_) | (with_reducible refine CallZ.z ?_) | simp -dsimp [go_sem])
  all_goals (try simp_all [checkCommand, formOk])
  all_goals (intros; first | (simp_all; done) | trace_state)
theorem check12_c (key field text : ByteArray) (n : Int) : PCall Tryz.prog G 67 [.agg [iC 12, sC key, sC field, sC text, iC n]] (iV (checkCommand 12 key field text n)) := by
  refine pcallc mixed Tryz.func67 ac_value_CheckCommand ?_
  repeat' (first | (with_reducible first | refine Cn (fun h => ?_) fun h => ?_ | refine And.intro ?_ ?_ | refine wR ?_ | exact wr _ _ | refine wa ?_ | apply awp_join | refine q (field_c _) ?_ | refine qd (field_c _) ?_ | refine qz (field_c _) ?_ | refine q (text_c _) ?_ | refine qd (text_c _) ?_ | refine qz (text_c _) ?_ | refine q (count_c _) ?_ | refine qd (count_c _) ?_ | refine qz (count_c _) ?_) | (with_reducible refine CallZ.z ?_) | simp -dsimp [go_sem])
  all_goals (try simp_all [checkCommand, formOk])
  all_goals (intros; first | (simp_all; done) | trace_state)
theorem check13_c (key field text : ByteArray) (n : Int) : PCall Tryz.prog G 67 [.agg [iC 13, sC key, sC field, sC text, iC n]] (iV (checkCommand 13 key field text n)) := by
  refine pcallc mixed Tryz.func67 ac_value_CheckCommand ?_
  repeat' (first | (with_reducible first | refine Cn (fun h => ?_) fun h => ?_ | refine And.intro ?_ ?_ | refine wR ?_ | exact wr _ _ | refine wa ?_ | apply awp_join | refine q (field_c _) ?_ | refine qd (field_c _) ?_ | refine qz (field_c _) ?_ | refine q (text_c _) ?_ | refine qd (text_c _) ?_ | refine qz (text_c _) ?_ | refine q (count_c _) ?_ | refine qd (count_c _) ?_ | refine qz (count_c _) ?_) | (with_reducible refine CallZ.z ?_) | simp -dsimp [go_sem])
  all_goals (try simp_all [checkCommand, formOk])
  all_goals (intros; first | (simp_all; done) | trace_state)
theorem check14_c (key field text : ByteArray) (n : Int) : PCall Tryz.prog G 67 [.agg [iC 14, sC key, sC field, sC text, iC n]] (iV (checkCommand 14 key field text n)) := by
  refine pcallc mixed Tryz.func67 ac_value_CheckCommand ?_
  repeat' (first | (with_reducible first | refine Cn (fun h => ?_) fun h => ?_ | refine And.intro ?_ ?_ | refine wR ?_ | exact wr _ _ | refine wa ?_ | apply awp_join | refine q (field_c _) ?_ | refine qd (field_c _) ?_ | refine qz (field_c _) ?_ | refine q (text_c _) ?_ | refine qd (text_c _) ?_ | refine qz (text_c _) ?_ | refine q (count_c _) ?_ | refine qd (count_c _) ?_ | refine qz (count_c _) ?_) | (with_reducible refine CallZ.z ?_) | simp -dsimp [go_sem])
  all_goals (try simp_all [checkCommand, formOk])
  all_goals (intros; first | (simp_all; done) | trace_state)
theorem check15_c (key field text : ByteArray) (n : Int) : PCall Tryz.prog G 67 [.agg [iC 15, sC key, sC field, sC text, iC n]] (iV (checkCommand 15 key field text n)) := by
  refine pcallc mixed Tryz.func67 ac_value_CheckCommand ?_
  repeat' (first | (with_reducible first | refine Cn (fun h => ?_) fun h => ?_ | refine And.intro ?_ ?_ | refine wR ?_ | exact wr _ _ | refine wa ?_ | apply awp_join | refine q (field_c _) ?_ | refine qd (field_c _) ?_ | refine qz (field_c _) ?_ | refine q (text_c _) ?_ | refine qd (text_c _) ?_ | refine qz (text_c _) ?_ | refine q (count_c _) ?_ | refine qd (count_c _) ?_ | refine qz (count_c _) ?_) | (with_reducible refine CallZ.z ?_) | simp -dsimp [go_sem])
  all_goals (try simp_all [checkCommand, formOk])
  all_goals (intros; first | (simp_all; done) | trace_state)
theorem check16_c (key field text : ByteArray) (n : Int) : PCall Tryz.prog G 67 [.agg [iC 16, sC key, sC field, sC text, iC n]] (iV (checkCommand 16 key field text n)) := by
  refine pcallc mixed Tryz.func67 ac_value_CheckCommand ?_
  repeat' (first | (with_reducible first | refine Cn (fun h => ?_) fun h => ?_ | refine And.intro ?_ ?_ | refine wR ?_ | exact wr _ _ | refine wa ?_ | apply awp_join | refine q (field_c _) ?_ | refine qd (field_c _) ?_ | refine qz (field_c _) ?_ | refine q (text_c _) ?_ | refine qd (text_c _) ?_ | refine qz (text_c _) ?_ | refine q (count_c _) ?_ | refine qd (count_c _) ?_ | refine qz (count_c _) ?_) | (with_reducible refine CallZ.z ?_) | simp -dsimp [go_sem])
  all_goals (try simp_all [checkCommand, formOk])
  all_goals (intros; first | (simp_all; done) | trace_state)
theorem check17_c (key field text : ByteArray) (n : Int) : PCall Tryz.prog G 67 [.agg [iC 17, sC key, sC field, sC text, iC n]] (iV (checkCommand 17 key field text n)) := by
  refine pcallc mixed Tryz.func67 ac_value_CheckCommand ?_
  repeat' (first | (with_reducible first | refine Cn (fun h => ?_) fun h => ?_ | refine And.intro ?_ ?_ | refine wR ?_ | exact wr _ _ | refine wa ?_ | apply awp_join | refine q (field_c _) ?_ | refine qd (field_c _) ?_ | refine qz (field_c _) ?_ | refine q (text_c _) ?_ | refine qd (text_c _) ?_ | refine qz (text_c _) ?_ | refine q (count_c _) ?_ | refine qd (count_c _) ?_ | refine qz (count_c _) ?_) | (with_reducible refine CallZ.z ?_) | simp -dsimp [go_sem])
  all_goals (try simp_all [checkCommand, formOk])
  all_goals (intros; first | (simp_all; done) | trace_state)
theorem check18_c (key field text : ByteArray) (n : Int) : PCall Tryz.prog G 67 [.agg [iC 18, sC key, sC field, sC text, iC n]] (iV (checkCommand 18 key field text n)) := by
  refine pcallc mixed Tryz.func67 ac_value_CheckCommand ?_
  repeat' (first | (with_reducible first | refine Cn (fun h => ?_) fun h => ?_ | refine And.intro ?_ ?_ | refine wR ?_ | exact wr _ _ | refine wa ?_ | apply awp_join | refine q (field_c _) ?_ | refine qd (field_c _) ?_ | refine qz (field_c _) ?_ | refine q (text_c _) ?_ | refine qd (text_c _) ?_ | refine qz (text_c _) ?_ | refine q (count_c _) ?_ | refine qd (count_c _) ?_ | refine qz (count_c _) ?_) | (with_reducible refine CallZ.z ?_) | simp -dsimp [go_sem])
  all_goals (try simp_all [checkCommand, formOk])
  all_goals (intros; first | (simp_all; done) | trace_state)
theorem check19_c (key field text : ByteArray) (n : Int) : PCall Tryz.prog G 67 [.agg [iC 19, sC key, sC field, sC text, iC n]] (iV (checkCommand 19 key field text n)) := by
  refine pcallc mixed Tryz.func67 ac_value_CheckCommand ?_
  repeat' (first | (with_reducible first | refine Cn (fun h => ?_) fun h => ?_ | refine And.intro ?_ ?_ | refine wR ?_ | exact wr _ _ | refine wa ?_ | apply awp_join | refine q (field_c _) ?_ | refine qd (field_c _) ?_ | refine qz (field_c _) ?_ | refine q (text_c _) ?_ | refine qd (text_c _) ?_ | refine qz (text_c _) ?_ | refine q (count_c _) ?_ | refine qd (count_c _) ?_ | refine qz (count_c _) ?_) | (with_reducible refine CallZ.z ?_) | simp -dsimp [go_sem])
  all_goals (try simp_all [checkCommand, formOk])
  all_goals (intros; first | (simp_all; done) | trace_state)
theorem check20_c (key field text : ByteArray) (n : Int) : PCall Tryz.prog G 67 [.agg [iC 20, sC key, sC field, sC text, iC n]] (iV (checkCommand 20 key field text n)) := by
  refine pcallc mixed Tryz.func67 ac_value_CheckCommand ?_
  repeat' (first | (with_reducible first | refine Cn (fun h => ?_) fun h => ?_ | refine And.intro ?_ ?_ | refine wR ?_ | exact wr _ _ | refine wa ?_ | apply awp_join | refine q (field_c _) ?_ | refine qd (field_c _) ?_ | refine qz (field_c _) ?_ | refine q (text_c _) ?_ | refine qd (text_c _) ?_ | refine qz (text_c _) ?_ | refine q (count_c _) ?_ | refine qd (count_c _) ?_ | refine qz (count_c _) ?_) | (with_reducible refine CallZ.z ?_) | simp -dsimp [go_sem])
  all_goals (try simp_all [checkCommand, formOk])
  all_goals (intros; first | (simp_all; done) | trace_state)
theorem check21_c (key field text : ByteArray) (n : Int) : PCall Tryz.prog G 67 [.agg [iC 21, sC key, sC field, sC text, iC n]] (iV (checkCommand 21 key field text n)) := by
  refine pcallc mixed Tryz.func67 ac_value_CheckCommand ?_
  repeat' (first | (with_reducible first | refine Cn (fun h => ?_) fun h => ?_ | refine And.intro ?_ ?_ | refine wR ?_ | exact wr _ _ | refine wa ?_ | apply awp_join | refine q (field_c _) ?_ | refine qd (field_c _) ?_ | refine qz (field_c _) ?_ | refine q (text_c _) ?_ | refine qd (text_c _) ?_ | refine qz (text_c _) ?_ | refine q (count_c _) ?_ | refine qd (count_c _) ?_ | refine qz (count_c _) ?_) | (with_reducible refine CallZ.z ?_) | simp -dsimp [go_sem])
  all_goals (try simp_all [checkCommand, formOk])
  all_goals (intros; first | (simp_all; done) | trace_state)
theorem check22_c (key field text : ByteArray) (n : Int) : PCall Tryz.prog G 67 [.agg [iC 22, sC key, sC field, sC text, iC n]] (iV (checkCommand 22 key field text n)) := by
  refine pcallc mixed Tryz.func67 ac_value_CheckCommand ?_
  repeat' (first | (with_reducible first | refine Cn (fun h => ?_) fun h => ?_ | refine And.intro ?_ ?_ | refine wR ?_ | exact wr _ _ | refine wa ?_ | apply awp_join | refine q (field_c _) ?_ | refine qd (field_c _) ?_ | refine qz (field_c _) ?_ | refine q (text_c _) ?_ | refine qd (text_c _) ?_ | refine qz (text_c _) ?_ | refine q (count_c _) ?_ | refine qd (count_c _) ?_ | refine qz (count_c _) ?_) | (with_reducible refine CallZ.z ?_) | simp -dsimp [go_sem])
  all_goals (try simp_all [checkCommand, formOk])
  all_goals (intros; first | (simp_all; done) | trace_state)
theorem check_c (k : Int) (key field text : ByteArray) (n : Int) : PCall Tryz.prog G 67 [.agg [iC k, sC key, sC field, sC text, iC n]] (iV (checkCommand k key field text n)) := by
  have hk : k < 1 ∨ 22 < k ∨ k = 1 ∨ k = 2 ∨ k = 3 ∨ k = 4 ∨ k = 5 ∨ k = 6 ∨ k = 7 ∨ k = 8 ∨ k = 9 ∨ k = 10 ∨ k = 11 ∨ k = 12 ∨ k = 13 ∨ k = 14 ∨ k = 15 ∨ k = 16 ∨ k = 17 ∨ k = 18 ∨ k = 19 ∨ k = 20 ∨ k = 21 ∨ k = 22 := by omega
  rcases hk with hk | hk | rfl | rfl | rfl | rfl | rfl | rfl | rfl | rfl | rfl | rfl | rfl | rfl | rfl | rfl | rfl | rfl | rfl | rfl | rfl | rfl | rfl | rfl
  · refine pcallc mixed Tryz.func67 ac_value_CheckCommand ?_
    simp -dsimp [go_sem, hk, checkCommand]
  · refine pcallc mixed Tryz.func67 ac_value_CheckCommand ?_
    have h' : ¬ k < 1 := by omega
    simp -dsimp [go_sem, hk, h', checkCommand]
  · exact check1_c key field text n
  · exact check2_c key field text n
  · exact check3_c key field text n
  · exact check4_c key field text n
  · exact check5_c key field text n
  · exact check6_c key field text n
  · exact check7_c key field text n
  · exact check8_c key field text n
  · exact check9_c key field text n
  · exact check10_c key field text n
  · exact check11_c key field text n
  · exact check12_c key field text n
  · exact check13_c key field text n
  · exact check14_c key field text n
  · exact check15_c key field text n
  · exact check16_c key field text n
  · exact check17_c key field text n
  · exact check18_c key field text n
  · exact check19_c key field text n
  · exact check20_c key field text n
  · exact check21_c key field text n
  · exact check22_c key field text n
end Go.Proofs.YtkkleopmambcnaaGreatDoor
set_option linter.unusedVariables false
set_option linter.unusedSimpArgs false
set_option maxRecDepth 100000
set_option maxHeartbeats 8000000
namespace Go.Proofs.YtkkleopmambcnaaGreatDoor
open Go Go.RowKit Go.Proofs.AE
variable {G : Nat → AV}
end Go.Proofs.YtkkleopmambcnaaGreatDoor
set_option linter.unusedVariables false
set_option linter.unusedSimpArgs false
namespace Go.Proofs.AE
open Go Go.RowKit
section
variable {P : Program} {k : Nat} {s : S}
def frSub (fr : List (Nat × AV)) : List (Nat × AV) → Prop
  | [] => True
  | (t, v) :: r => v = getF fr t ∧ frSub fr r
attribute [go_sem] frSub
theorem frSub_get {fr : List (Nat × AV)} : ∀ {fr' : List (Nat × AV)}, frSub fr fr' → ∀ t, getF fr' t = .any ∨ getF fr' t = getF fr t
  | [], _, t => .inl rfl
  | (u, v) :: r, ⟨h1, h2⟩, t => by
    simp only [getF]
    by_cases hu : u = t
    · subst hu; rw [if_pos rfl]; exact .inr h1
    · rw [if_neg hu]; exact frSub_get h2 t
theorem weak_fr {s' : S} (hg : s'.gl = s.gl) (hh : s'.hp = s.hp) (hf : frSub s.fr s'.fr) : Weak k s s' := by
  refine ⟨hg, fun n w ok μ a hst => ⟨ok, μ, ⟨hh ▸ hst.hr, hst.size, hst.defers, fun t => ?_, hg ▸ hst.gl⟩, by rw [hh]; exact (Step.refl hst.hr).far⟩⟩
  rcases frSub_get hf t with h | h
  · rw [h]; exact .any
  · rw [h]; exact hst.fr t
theorem awp_join {alts : List (List AOp × List (Nat × Nat))} {Q : Exit → S → Prop} (s0 : S) (h : allAlts P s (fun s' => Weak k s' s0) alts) (hq : Q .normal s0) : awp P k (.regD alts) Q s :=
  allAlts_mono (fun _ h => ⟨s0, h, hq⟩) h
theorem least {p : Nat → Prop} (h : ∃ n, p n) : ∃ n, p n ∧ ∀ m, p m → n ≤ m := by
  obtain ⟨n, hn⟩ := h
  induction n using Nat.strongRecOn with
  | _ n ih =>
    by_cases h : ∃ m, m < n ∧ p m
    · obtain ⟨m, h1, h2⟩ := h; exact ih m h1 h2
    · exact ⟨n, hn, fun m hm => Nat.le_of_not_lt fun hlt => h ⟨m, hlt, hm⟩⟩
def Again {σ : Type} (k : Nat) (st : σ → S) (A : σ → Prop) (m : σ → Nat) (x : σ) (s' : S) : Prop := ∃ x', Weak k s' (st x') ∧ A x' ∧ m x' < m x
theorem Again.fr {σ : Type} {st : σ → S} {A : σ → Prop} {m : σ → Nat} {x : σ} {s' : S} (x' : σ) (hg : (st x').gl = s'.gl) (hh : (st x').hp = s'.hp) (hf : frSub s'.fr (st x').fr) (hA : A x') (hm : m x' < m x) : Again k st A m x s' :=
  ⟨x', weak_fr hg hh hf, hA, hm⟩
theorem Again.auto {σ : Type} {st : σ → S} {A : σ → Prop} {m : σ → Nat} {x : σ} {s' : S} (x' : σ) (hw : WA k s' (st x')) (hA : A x') (hm : m x' < m x) : Again k st A m x s' := ⟨x', weak_auto hw, hA, hm⟩
def LoopH (P : Program) (k : Nat) (c : ACode) (Q : Exit → S → Prop) (s : S) (_ : Held c) (_ : Held Q) : Prop := awp P k (.loop c) Q s
@[go_sem ↓] theorem awp_loop' {c : ACode} {Q : Exit → S → Prop} : awp P k (.loop c) Q s = LoopH P k c Q s ⟨⟩ ⟨⟩ := rfl
theorem awp_loop {σ : Type} (st : σ → S) (A : σ → Prop) (m : σ → Nat) {c : ACode} {Q : Exit → S → Prop} (x0 : σ) (h0 : Weak k s (st x0)) (hA : A x0)
    (hb : ∀ x, A x → awp P k c (thenA (Again k st A m x) Q) (st x)) {a : Held c} {b : Held Q} : LoopH P k c Q s a b := by
  unfold LoopH
  classical
  let I : S → Prop := fun s => ∃ x, A x ∧ s = st x
  have hex : ∀ s, I s → ∃ n, ∃ x, A x ∧ s = st x ∧ m x = n := fun s ⟨x, h1, h2⟩ => ⟨m x, x, h1, h2, rfl⟩
  let f : S → Nat := fun s => if h : I s then Classical.choose (least (hex s h)) else 0
  have hf : ∀ s, I s → (∃ x, A x ∧ s = st x ∧ m x = f s) ∧ ∀ x, A x → s = st x → f s ≤ m x := by
    intro s hs
    have hsp := Classical.choose_spec (least (hex s hs))
    have hfs : f s = Classical.choose (least (hex s hs)) := dif_pos hs
    rw [hfs]
    exact ⟨hsp.1, fun x h1 h2 => hsp.2 _ ⟨x, h1, h2, rfl⟩⟩
  refine ⟨I, f, ⟨st x0, h0, x0, hA, rfl⟩, fun s hs => ?_⟩
  obtain ⟨x, h1, h2, h3⟩ := (hf s hs).1
  have hbx := hb x h1
  rw [← h2] at hbx
  refine awp_mono (fun e s' he => ?_) hbx
  cases e with
  | normal =>
    obtain ⟨x', q1, q2, q3⟩ := he
    refine ⟨st x', q1, ⟨x', q2, rfl⟩, ?_⟩
    rw [← h3]
    exact Nat.lt_of_le_of_lt ((hf _ ⟨x', q2, rfl⟩).2 x' q2 rfl) q3
  | _ => exact he
end
end Go.Proofs.AE
set_option linter.unusedVariables false
set_option linter.unusedSimpArgs false
set_option maxRecDepth 100000
set_option maxHeartbeats 8000000
namespace Go.Proofs.YtkkleopmambcnaaGreatDoor
open Go Go.RowKit Go.Proofs.AE
variable {G : Nat → AV}
abbrev strRows (l : List ByteArray) : List (List V) := l.map fun s => [V.lit (.string s)]
def checkReply (code : Int) (text : ByteArray) (n : Int) (l : List ByteArray) : Int :=
  if decide (code < 0) then 3 else if decide (13 < code) then 3 else if decide (20 < (text.size : Int)) then 1 else if decide (20 < (l.length : Int)) then 1
  else if l.any (fun s => decide (20 < (s.size : Int))) then 1 else if decide (n < -1099511627776) then 2 else if decide (1099511627776 < n) then 2 else 0
end Go.Proofs.YtkkleopmambcnaaGreatDoor
set_option linter.unusedVariables false
set_option linter.unusedSimpArgs false
set_option maxRecDepth 100000
set_option maxHeartbeats 8000000
namespace Go.Proofs.YtkkleopmambcnaaGreatDoor
open Go Go.RowKit Go.Proofs.AE
variable {G : Nat → AV}
def cmpB (a b : ByteArray) : Int := Lib.compareBytes a.data.toList b.data.toList
def cmpI (a b : Int) : Int := if a < b then -1 else if a > b then 1 else 0
def insAt {α : Type} (l : List α) (i : Nat) (x : α) : List α := l.take i ++ x :: l.drop i
def delAt {α : Type} (l : List α) (i : Nat) : List α := l.take i ++ l.drop (i + 1)
end Go.Proofs.YtkkleopmambcnaaGreatDoor
set_option linter.unusedVariables false
set_option linter.unusedSimpArgs false
set_option maxRecDepth 100000
set_option maxHeartbeats 8000000
namespace Go.Proofs.YtkkleopmambcnaaGreatDoor
open Go Go.RowKit Go.Proofs.AE
variable {G : Nat → AV}
abbrev Pr := ByteArray × ByteArray
abbrev Sc := ByteArray × Int
abbrev row_api_Pair (p : Pr) : List V := [V.lit (.string p.1), V.lit (.string p.2)]
abbrev row_api_Score (p : Sc) : List V := [V.lit (.string p.1), V.lit (.int .i64 p.2)]
def firstI {α : Type} (p : α → Bool) : Nat → List α → Int
  | _, [] => -1
  | i, s :: l => if p s then (i : Int) else firstI p (i + 1) l
def rising {α : Type} (cmp : α → α → Int) : List α → Bool
  | a :: b :: r => decide (cmp a b < 0) && rising cmp (b :: r)
  | _ => true
end Go.Proofs.YtkkleopmambcnaaGreatDoor
set_option linter.unusedVariables false
set_option linter.unusedSimpArgs false
set_option maxRecDepth 100000
set_option maxHeartbeats 8000000
namespace Go.Proofs.YtkkleopmambcnaaGreatDoor
open Go Go.RowKit Go.Proofs.AE
variable {G : Nat → AV}
abbrev bF (a b : Pr) : Int := cmpB a.1 b.1
def bS (a b : Sc) : Int := if cmpI a.2 b.2 = 0 then cmpB a.1 b.1 else cmpI a.2 b.2
def rankOf (l : List Sc) (m : ByteArray) : Int := firstI (fun s => decide (s.1 = m)) 0 l
structure Val where
  kind : Int
  text : ByteArray
  count : Int
  pairs : List Pr
  items : List ByteArray
  scores : List Sc
abbrev pR (l : List Pr) : List (List V) := l.map row_api_Pair
abbrev sR (l : List Sc) : List (List V) := l.map row_api_Score
def Val.c (v : Val) : List C := [iC v.kind, sC v.text, iC v.count, .v (.sl (pR v.pairs)), .v (.sl (strRows v.items)), .v (.sl (sR v.scores))]
def Val.els (v : Val) : Int := (v.pairs.length : Int) + v.items.length + v.scores.length
def longS (s : ByteArray) : Bool := !okText s
def badP (p : Pr) : Bool := !okField p.1 || !okText p.2
def longM (s : Sc) : Bool := !okText s.1
def farN (s : Sc) : Bool := !okCount s.2
def onceB (l : List Sc) (i : Nat) : Bool := (List.range i).all fun j => match l[j]? with | some s => decide (rankOf (l.take j) s.1 < 0) | none => true
def Val.bad (v : Val) : Bool := (v.kind != 1 && decide (v.text ≠ ⟨#[]⟩)) || (v.kind != 2 && decide (v.count ≠ 0)) || decide (0 < (if v.kind = 3 then 0 else (v.pairs.length : Int)) + (if v.kind = 4 ∨ v.kind = 5 then 0 else (v.items.length : Int)) + (if v.kind = 6 then 0 else (v.scores.length : Int)))
def Val.ord (v : Val) : Bool := rising bF v.pairs && rising bS v.scores && (decide (v.kind ≠ 5) || rising cmpB v.items)
def Val.order (v : Val) : Bool := v.ord && onceB v.scores v.scores.length
def checkV (v : Val) : Int :=
  if v.kind < 1 then 3 else if 6 < v.kind then 3 else if v.bad = true then 8
  else if 3 ≤ v.kind ∧ (v.els < 1 ∨ 20 < v.els) then 1
  else if (!okText v.text || v.items.any longS) = true then 1
  else if v.pairs.any badP = true then 1
  else if v.scores.any longM = true then 1
  else if (!okCount v.count || v.scores.any farN) = true then 2
  else if v.order = true then 0 else 10
def Val.Small (v : Val) : Prop := v.pairs.length ≤ 1000 ∧ v.items.length ≤ 1000 ∧ v.scores.length ≤ 1000
end Go.Proofs.YtkkleopmambcnaaGreatDoor
set_option linter.unusedVariables false
set_option linter.unusedSimpArgs false
set_option maxRecDepth 100000
set_option maxHeartbeats 8000000
namespace Go.Proofs.YtkkleopmambcnaaGreatDoor
open Go Go.RowKit Go.Proofs.AE
variable {G : Nat → AV}
def at_api_Pair (cmp : Pr → Pr → Int) (l : List Pr) (t : Pr) (i : Nat) : Bool := match l[i]? with | some a => cmp a t == 0 | none => false
abbrev lessB (a b : ByteArray) : Bool := Op.bytesLess a.data.toList b.data.toList
def at_string (l : List ByteArray) (t : ByteArray) (i : Nat) : Bool := match l[i]? with | some a => decide (a = t) | none => false
end Go.Proofs.YtkkleopmambcnaaGreatDoor
set_option linter.unusedVariables false
set_option linter.unusedSimpArgs false
set_option maxRecDepth 100000
set_option maxHeartbeats 8000000
namespace Go.Proofs.YtkkleopmambcnaaGreatDoor
open Go Go.RowKit Go.Proofs.AE
variable {G : Nat → AV}
theorem ul_one {k : Nat} {x : List V} (h : x.length = k) : UL k [x] := by
  intro r hr
  simp at hr
  subst hr
  exact h
end Go.Proofs.YtkkleopmambcnaaGreatDoor
set_option linter.unusedVariables false
set_option linter.unusedSimpArgs false
set_option maxRecDepth 100000
set_option maxHeartbeats 8000000
namespace Go.Proofs.YtkkleopmambcnaaGreatDoor
open Go Go.RowKit Go.Proofs.AE
variable {G : Nat → AV}
structure Cmd where
  kind : Int
  key : ByteArray
  field : ByteArray
  text : ByteArray
  n : Int
def Cmd.c (c : Cmd) : List C := [iC c.kind, sC c.key, sC c.field, sC c.text, iC c.n]
structure Rep where
  code : Int
  text : ByteArray
  n : Int
  list : List ByteArray
def Rep.c (r : Rep) : List C := [iC r.code, sC r.text, iC r.n, .v (.sl (strRows r.list))]
def toldR (n : Int) : Rep := ⟨0, ⟨#[]⟩, n, []⟩
def failR (e : Int) : Rep := ⟨e, ⟨#[]⟩, 0, []⟩
def textR (t : ByteArray) : Rep := ⟨0, t, 0, []⟩
def flagN (b : Bool) : Int := if b then 1 else 0
def plc {α : Type} (lt : α → Bool) (l : List α) : Nat := (l.takeWhile lt).length
def hashAt (ps : List Pr) (f : ByteArray) : Nat := plc (fun p => decide (cmpB p.1 f < 0)) ps
def hashIn (ps : List Pr) (f : ByteArray) : Bool := at_api_Pair bF ps (f, ⟨#[]⟩) (hashAt ps f)
def hashV (ps : List Pr) (c : Cmd) : List Pr × Rep :=
  let i := hashAt ps c.field
  let there := hashIn ps c.field
  if c.kind = 4 then
    if there then (ps.set i ((ps[i]?.getD (c.field, c.text)).1, c.text), toldR 0)
    else if ps.length = 20 then (ps, failR 6)
    else (insAt ps i (c.field, c.text), toldR 1)
  else if c.kind = 5 then
    if there then (ps, textR (ps[i]?.getD (c.field, c.text)).2) else (ps, failR 5)
  else if there then (delAt ps i, toldR 1) else (ps, toldR 0)
abbrev ownHp (k : Int) (t : ByteArray) (n : Int) (p i s : List (List V)) : Hp := [some (.box 91 [iC k, sC t, iC n, .ar 1, .ar 2, .ar 3]), some (.arr 151 2 p), some (.arr 9 1 i), some (.arr 154 2 s)]
end Go.Proofs.YtkkleopmambcnaaGreatDoor
set_option linter.unusedVariables false
set_option linter.unusedSimpArgs false
set_option maxRecDepth 100000
set_option maxHeartbeats 8000000
namespace Go.Proofs.YtkkleopmambcnaaGreatDoor
open Go Go.RowKit Go.Proofs.AE
variable {G : Nat → AV}
def listV (l : List ByteArray) (c : Cmd) : List ByteArray × Rep :=
  if c.kind ≤ 8 ∧ l.length = 20 then (l, failR 6)
  else if c.kind = 7 then (l ++ [c.text], toldR (l.length + 1))
  else if c.kind = 8 then (c.text :: l, toldR (l.length + 1))
  else if c.kind = 9 then (l.take (l.length - 1), textR (l[l.length - 1]?.getD ⟨#[]⟩))
  else (l.drop 1, textR (l[0]?.getD ⟨#[]⟩))
abbrev plainHp (k : Int) (t : ByteArray) (n : Int) (p i s : List (List V)) : Hp := [some (.box 91 [iC k, sC t, iC n, .v (.sl p), .v (.sl i), .v (.sl s)])]
end Go.Proofs.YtkkleopmambcnaaGreatDoor
set_option linter.unusedVariables false
set_option linter.unusedSimpArgs false
set_option maxRecDepth 100000
set_option maxHeartbeats 8000000
namespace Go.Proofs.YtkkleopmambcnaaGreatDoor
open Go Go.RowKit Go.Proofs.AE
variable {G : Nat → AV}
def setAt (l : List ByteArray) (t : ByteArray) : Nat := plc (fun a => lessB a t) l
def setIn (l : List ByteArray) (t : ByteArray) : Bool := at_string l t (setAt l t)
def setV (l : List ByteArray) (c : Cmd) : List ByteArray × Rep :=
  let i := setAt l c.text
  let there := setIn l c.text
  if c.kind = 11 then
    if there then (l, toldR 0) else if l.length = 20 then (l, failR 6) else (insAt l i c.text, toldR 1)
  else if c.kind = 12 then (if there then (delAt l i, toldR 1) else (l, toldR 0))
  else (l, toldR (flagN there))
def rankCut (l : List Sc) (m : ByteArray) : List Sc := if rankOf l m < 0 then l else delAt l (rankOf l m).toNat
def rankAt (l : List Sc) (m : ByteArray) (n : Int) : Nat := plc (fun a => decide (bS a (m, n) < 0)) l
def ranksV (l : List Sc) (c : Cmd) : List Sc × Rep :=
  let i := rankOf l c.text
  if c.kind = 16 then (l, if i < 0 then failR 5 else toldR i)
  else if c.kind = 15 then (rankCut l c.text, toldR (if i < 0 then 0 else 1))
  else if i < 0 ∧ l.length = 20 then (l, failR 6)
  else (insAt (rankCut l c.text) (rankAt (rankCut l c.text) c.text c.n) (c.text, c.n), toldR (if i < 0 then 1 else 0))
end Go.Proofs.YtkkleopmambcnaaGreatDoor
set_option linter.unusedVariables false
set_option linter.unusedSimpArgs false
set_option maxRecDepth 100000
set_option maxHeartbeats 8000000
namespace Go.Proofs.YtkkleopmambcnaaGreatDoor
open Go Go.RowKit Go.Proofs.AE
variable {G : Nat → AV}
def allV (v : Val) : List ByteArray := v.items ++ v.pairs.map (·.1) ++ v.scores.map (·.1)
end Go.Proofs.YtkkleopmambcnaaGreatDoor
set_option linter.unusedVariables false
set_option linter.unusedSimpArgs false
set_option maxRecDepth 100000
set_option maxHeartbeats 8000000
namespace Go.Proofs.YtkkleopmambcnaaGreatDoor
open Go Go.RowKit Go.Proofs.AE
variable {G : Nat → AV}
def Val.plain (v : Val) : Hp := plainHp v.kind v.text v.count (pR v.pairs) (strRows v.items) (sR v.scores)
def Val.own (v : Val) : Hp := ownHp v.kind v.text v.count (pR v.pairs) (strRows v.items) (sR v.scores)
def doV (v : Val) (c : Cmd) : Val × Rep :=
  if c.kind = 1 then (⟨1, c.text, 0, [], [], []⟩, toldR 0)
  else if c.kind = 2 then (v, textR v.text)
  else if c.kind = 3 then (if okCount (v.count + c.n) = true then ({ v with count := v.count + c.n }, toldR (v.count + c.n)) else (v, failR 7))
  else if c.kind = 17 then (v, toldR v.els)
  else if c.kind = 18 then (v, ⟨0, ⟨#[]⟩, 0, allV v⟩)
  else if v.kind = 3 then ({ v with pairs := (hashV v.pairs c).1 }, (hashV v.pairs c).2)
  else if v.kind = 4 then ({ v with items := (listV v.items c).1 }, (listV v.items c).2)
  else if v.kind = 5 then ({ v with items := (setV v.items c).1 }, (setV v.items c).2)
  else ({ v with scores := (ranksV v.scores c).1 }, (ranksV v.scores c).2)
end Go.Proofs.YtkkleopmambcnaaGreatDoor
set_option linter.unusedVariables false
set_option linter.unusedSimpArgs false
set_option maxRecDepth 100000
set_option maxHeartbeats 8000000
namespace Go.Proofs.YtkkleopmambcnaaGreatDoor
open Go Go.RowKit Go.Proofs.AE
theorem cb_self : ∀ a : List UInt8, Lib.compareBytes a a = 0
  | [] => rfl
  | x :: a => by simp [Lib.compareBytes, UInt8.lt_irrefl, cb_self a]
theorem ba_ext {a b : ByteArray} (h : a.data.toList = b.data.toList) : a = b := by
  cases a; cases b
  congr 1
  exact Array.ext' h
theorem cmpB_self (a : ByteArray) : cmpB a a = 0 := cb_self _
end Go.Proofs.YtkkleopmambcnaaGreatDoor
set_option linter.unusedVariables false
set_option linter.unusedSimpArgs false
set_option maxRecDepth 100000
set_option maxHeartbeats 8000000
namespace Go.Proofs.YtkkleopmambcnaaGreatDoor
open Go Go.RowKit Go.Proofs.AE
variable {G : Nat → AV}
end Go.Proofs.YtkkleopmambcnaaGreatDoor
set_option linter.unusedVariables false
set_option linter.unusedSimpArgs false
set_option maxRecDepth 100000
set_option maxHeartbeats 8000000
namespace Go.Proofs.YtkkleopmambcnaaGreatDoor
open Go Go.RowKit Go.Proofs.AE
variable {G : Nat → AV}
end Go.Proofs.YtkkleopmambcnaaGreatDoor
set_option linter.unusedVariables false
set_option linter.unusedSimpArgs false
set_option maxRecDepth 100000
set_option maxHeartbeats 8000000
namespace Go.Proofs.YtkkleopmambcnaaGreatDoor
open Go Go.RowKit Go.Proofs.AE
variable {G : Nat → AV}
end Go.Proofs.YtkkleopmambcnaaGreatDoor
set_option linter.unusedVariables false
set_option linter.unusedSimpArgs false
set_option maxRecDepth 100000
set_option maxHeartbeats 8000000
namespace Go.Proofs.YtkkleopmambcnaaGreatDoor
open Go Go.RowKit Go.Proofs.AE
variable {G : Nat → AV}
def Val.isNone (v : Val) : Bool := (v.kind == 0 && decide (v.text = ⟨#[]⟩)) && v.count == 0 && v.els == 0
def kindOfC (k : Int) : Int := if k = 2 then 1 else if k = 3 then 2 else if 4 ≤ k ∧ k ≤ 6 then 3 else if 7 ≤ k ∧ k ≤ 10 then 4 else if 11 ≤ k ∧ k ≤ 13 then 5 else if 14 ≤ k ∧ k ≤ 16 then 6 else 0
def makesC (k : Int) : Bool := k == 1 || k == 3 || k == 4 || k == 7 || k == 8 || k == 11 || k == 14
def zeroV : Val := ⟨0, ⟨#[]⟩, 0, [], [], []⟩
def checkC (c : Cmd) : Int := checkCommand c.kind c.key c.field c.text c.n
def DoV (v : Val) (c : Cmd) : Val × Rep × Int :=
  if checkV v ≠ 0 ∧ v.isNone = false then (zeroV, toldR 0, checkV v)
  else if checkC c ≠ 0 then (zeroV, toldR 0, checkC c)
  else if 18 < c.kind then (zeroV, toldR 0, 3)
  else if v.isNone = true ∧ makesC c.kind = false then (v, failR 5, 0)
  else if v.isNone = false ∧ ((kindOfC c.kind ≠ 0 ∧ kindOfC c.kind ≠ v.kind) ∨ (17 ≤ c.kind ∧ v.kind < 3)) then (v, failR 4, 0)
  else if (doV (if v.isNone = true then { v with kind := kindOfC c.kind } else v) c).2.code ≠ 0 then (v, (doV (if v.isNone = true then { v with kind := kindOfC c.kind } else v) c).2, 0)
  else if 3 ≤ (doV (if v.isNone = true then { v with kind := kindOfC c.kind } else v) c).1.kind ∧ (doV (if v.isNone = true then { v with kind := kindOfC c.kind } else v) c).1.els = 0 then (zeroV, (doV (if v.isNone = true then { v with kind := kindOfC c.kind } else v) c).2, 0)
  else ((doV (if v.isNone = true then { v with kind := kindOfC c.kind } else v) c).1, (doV (if v.isNone = true then { v with kind := kindOfC c.kind } else v) c).2, 0)
end Go.Proofs.YtkkleopmambcnaaGreatDoor
set_option linter.unusedVariables false
set_option linter.unusedSimpArgs false
set_option maxRecDepth 100000
set_option maxHeartbeats 8000000
namespace Go.Proofs.YtkkleopmambcnaaGreatDoor
open Go Go.RowKit Go.Proofs.AE
variable {G : Nat → AV}
end Go.Proofs.YtkkleopmambcnaaGreatDoor
set_option linter.unusedVariables false
set_option linter.unusedSimpArgs false
set_option maxRecDepth 100000
set_option maxHeartbeats 8000000
namespace Go.Proofs.YtkkleopmambcnaaGreatDoor
open Go Go.RowKit Go.Proofs.AE
variable {G : Nat → AV}
end Go.Proofs.YtkkleopmambcnaaGreatDoor
set_option linter.unusedVariables false
set_option linter.unusedSimpArgs false
set_option maxRecDepth 100000
set_option maxHeartbeats 8000000
namespace Go.Proofs.YtkkleopmambcnaaGreatDoor
open Go Go.RowKit Go.Proofs.AE
structure OkV (v : Val) : Prop where
  kind : 1 ≤ v.kind ∧ v.kind ≤ 6
  text : v.kind = 1 ∨ v.text = ⟨#[]⟩
  count : v.kind = 2 ∨ v.count = 0
  pairs : v.kind = 3 ∨ v.pairs = []
  items : v.kind = 4 ∨ v.kind = 5 ∨ v.items = []
  scores : v.kind = 6 ∨ v.scores = []
  els : 3 ≤ v.kind → 1 ≤ v.els ∧ v.els ≤ 20
  okT : okText v.text = true
  okI : ∀ s ∈ v.items, okText s = true
  okP : ∀ p ∈ v.pairs, okField p.1 = true ∧ okText p.2 = true
  okS : ∀ s ∈ v.scores, okText s.1 = true ∧ okCount s.2 = true
  okC : okCount v.count = true
  riseP : v.pairs.Pairwise (fun a b => bF a b < 0)
  riseS : v.scores.Pairwise (fun a b => bS a b < 0)
  riseI : v.kind = 5 → v.items.Pairwise (fun a b => cmpB a b < 0)
  once : v.scores.Pairwise (fun a b => a.1 ≠ b.1)
theorem OkV.small {v : Val} (h : OkV v) : v.Small := by
  unfold Val.Small
  have := h.els
  unfold Val.els at this
  by_cases hk : 3 ≤ v.kind
  · have := this hk; omega
  · have e1 := h.pairs.resolve_left (by omega)
    have e2 := (h.items.resolve_left (by omega)).resolve_left (by omega)
    have e3 := h.scores.resolve_left (by omega)
    rw [e1, e2, e3]; simp
end Go.Proofs.YtkkleopmambcnaaGreatDoor
set_option linter.unusedVariables false
set_option linter.unusedSimpArgs false
set_option maxRecDepth 100000
set_option maxHeartbeats 8000000
namespace Go.Proofs.YtkkleopmambcnaaGreatDoor
open Go Go.RowKit Go.Proofs.AE
variable {G : Nat → AV}
end Go.Proofs.YtkkleopmambcnaaGreatDoor
set_option linter.unusedVariables false
set_option linter.unusedSimpArgs false
set_option maxRecDepth 100000
set_option maxHeartbeats 8000000
namespace Go.Proofs.YtkkleopmambcnaaGreatDoor
open Go Go.RowKit Go.Proofs.AE
variable {G : Nat → AV}
end Go.Proofs.YtkkleopmambcnaaGreatDoor
set_option linter.unusedVariables false
set_option linter.unusedSimpArgs false
set_option maxRecDepth 100000
set_option maxHeartbeats 8000000
namespace Go.Proofs.YtkkleopmambcnaaGreatDoor
open Go Go.RowKit Go.Proofs.AE
structure OkB (v : Val) : Prop where
  kind : 1 ≤ v.kind ∧ v.kind ≤ 6
  text : v.kind = 1 ∨ v.text = ⟨#[]⟩
  count : v.kind = 2 ∨ v.count = 0
  pairs : v.kind = 3 ∨ v.pairs = []
  items : v.kind = 4 ∨ v.kind = 5 ∨ v.items = []
  scores : v.kind = 6 ∨ v.scores = []
  els : v.els ≤ 20
  okT : okText v.text = true
  okI : ∀ s ∈ v.items, okText s = true
  okP : ∀ p ∈ v.pairs, okField p.1 = true ∧ okText p.2 = true
  okS : ∀ s ∈ v.scores, okText s.1 = true ∧ okCount s.2 = true
  okC : okCount v.count = true
  riseP : v.pairs.Pairwise (fun a b => bF a b < 0)
  riseS : v.scores.Pairwise (fun a b => bS a b < 0)
  riseI : v.kind = 5 → v.items.Pairwise (fun a b => cmpB a b < 0)
  once : v.scores.Pairwise (fun a b => a.1 ≠ b.1)
theorem OkB.ok {v : Val} (h : OkB v) (h1 : ¬ (3 ≤ v.kind ∧ v.els = 0)) : OkV v :=
  ⟨h.kind, h.text, h.count, h.pairs, h.items, h.scores, fun hk => by have := h.els; have : 0 ≤ v.els := by (unfold Val.els; omega)
                                                                     omega, h.okT, h.okI, h.okP, h.okS, h.okC, h.riseP, h.riseS, h.riseI, h.once⟩
theorem OkV.b {v : Val} (h : OkV v) : OkB v := by
  refine ⟨h.kind, h.text, h.count, h.pairs, h.items, h.scores, ?_, h.okT, h.okI, h.okP, h.okS, h.okC, h.riseP, h.riseS, h.riseI, h.once⟩
  by_cases hk : 3 ≤ v.kind
  · exact (h.els hk).2
  · unfold Val.els
    rw [h.pairs.resolve_left (by omega), (h.items.resolve_left (by omega)).resolve_left (by omega), h.scores.resolve_left (by omega)]
    simp
def Vk (v : Val) : Prop := OkV v ∨ v = zeroV
theorem Vk.small {v : Val} (h : Vk v) : v.Small := by
  rcases h with h | h
  · exact h.small
  · rw [h]; exact ⟨Nat.zero_le _, Nat.zero_le _, Nat.zero_le _⟩
end Go.Proofs.YtkkleopmambcnaaGreatDoor
set_option linter.unusedVariables false
set_option linter.unusedSimpArgs false
namespace Go.Proofs.AE
open Go Go.RowKit
section
variable {P : Program} {W : World}
theorem below_of {ok ok' : Nat → Prop} {μ' : List MB} {hp' : Hp} {w' : World} (h : Step W ok [] [] w' ok' μ' hp') : Below W.heap.size W w' :=
  ⟨h.os, h.tape, h.output, h.size, fun k hk => h.frame k hk not_own_nil⟩
theorem PCall.run {G : Nat → AV} {ok : Nat → Prop} {f : Nat} {args : List AV} {xs : List Value} {b : Bool} (h : PCall P G f args (.one (.v (.lit (.bool b))))) (hok : ∀ b, ok b → b < W.heap.size) (hg : GRel W ok G) (hargs : AVRels W ok [] args xs) :
    Calls P f xs.toArray W fun e W' => e = .returned (.bool b) ∧ Below W.heap.size W W' := by
  refine (h W ok [] xs (hr_nil hok) hg hargs).mono ?_
  rintro e w' ⟨x, r, hp', ok', μ', rfl, hs, hr, rfl, rfl⟩
  have := lit_rel hr
  subst this
  exact ⟨rfl, below_of hs⟩
end
end Go.Proofs.AE
set_option linter.unusedVariables false
set_option linter.unusedSimpArgs false
namespace Go.Proofs.AE
open Go Go.RowKit
def WT (P : Program) : Nat → TypeId → List V → Prop
  | 0, _, _ => False
  | n + 1, t, vs => match tiOf P t with
    | none => False
    | some i => match i.sh with
      | .bool => ∃ b, vs = [.lit (.bool b)]
      | .int k => ∃ x, vs = [.lit (.int k x)] ∧ (Lit.int k x).wf = true
      | .string => ∃ s : ByteArray, vs = [.lit (.string s)] ∧ s.size ≤ maxLen
      | .struct fs => vs.length = i.size ∧ ∀ f ∈ fs, ∃ j, tiOf P f.1 = some j ∧ WT P n f.1 ((vs.drop f.2).take j.size)
      | .slice e => ∃ rows, vs = [.sl rows] ∧ rows.length ≤ maxLen ∧ ∀ r ∈ rows, WT P n e r
      | _ => False
def flatT (P : Program) : Nat → TypeId → Bool
  | 0, _ => false
  | n + 1, t => match tiOf P t with
    | none => false
    | some i => match i.sh with
      | .bool | .int _ | .string => true
      | .struct fs => fs.all (fun f => flatT P n f.1)
      | _ => false
def deepT (P : Program) (D : Bool) : Nat → TypeId → Bool
  | 0, _ => false
  | n + 1, t => match tiOf P t with
    | none => false
    | some i => match i.sh with
      | .bool | .int _ | .string => true
      | .struct fs => fs.all (fun f => deepT P D n f.1)
      | .slice e => D && (decide (0 < P.cellsOf e) && deepT P D n e)
      | _ => false
theorem flat_deep {P : Program} : ∀ (n : Nat) (t : TypeId), flatT P n t = true → deepT P false n t = true
  | 0, _, h => by cases h
  | n + 1, t, h => by
    simp only [flatT] at h
    simp only [deepT]
    split at h
    · cases h
    · split at h
      · rename_i hsh; rw [hsh]
      · rename_i hsh; rw [hsh]
      · rename_i hsh; rw [hsh]
      · rename_i fs hsh
        rw [hsh]
        simp only [List.all_eq_true] at h ⊢
        exact fun f hf => flat_deep n f.1 (h f hf)
      · cases h
section
variable {H : Type} {enc : TypeId × Value → H} {P : Program} {w : World} {ok : Nat → Prop} {base : Nat} {spare : Nat → Bool} {held : Bool} {T : TypeId → Prop}
theorem cellsOf_ti {t : TypeId} {i : TI} (h : TIs P t i) : P.cellsOf t = i.size := by
  obtain ⟨j, h1, h2, _⟩ := h.info
  simp [Program.cellsOf, h1, h2]
theorem und_ti {t : TypeId} {i : TI} (h : TIs P t i) : ∃ d, P.underlying t = some d ∧ shOf P d = some i.sh := h.und
theorem flatten_take_drop {α : Type} : ∀ (L : List (List α)) (j : Nat) (l : List α), L[j]? = some l → (L.flatten.drop ((L.take j).map List.length).sum).take l.length = l
  | [], j, l, h => by simp at h
  | x :: L, 0, l, h => by simp at h; subst h; simp
  | x :: L, j + 1, l, h => by
    simp only [List.getElem?_cons_succ] at h
    have := flatten_take_drop L j l h
    simp only [List.take_succ_cons, List.map_cons, List.sum_cons, List.flatten_cons]
    rw [List.drop_append]
    have h1 : (x.drop (x.length + ((L.take j).map List.length).sum)) = [] := List.drop_eq_nil_of_le (by omega)
    rw [h1, List.nil_append, show x.length + ((L.take j).map List.length).sum - x.length = ((L.take j).map List.length).sum by omega]
    exact this
theorem all2_flatten {α β : Type} {R : α → β → Prop} : ∀ {L : List (List α)} {M : List (List β)}, All2 (All2 R) L M → All2 R L.flatten M.flatten
  | _, _, .nil => .nil
  | _, _, .cons h t => h.append (all2_flatten t)
theorem pieces {α : Type} : ∀ (ns : List Nat) (cs : List α), cs.length = ns.sum → ((List.range ns.length).map fun j => (cs.drop (ns.take j).sum).take (ns.getD j 0)).flatten = cs
  | [], cs, h => by simp at h; simp [h]
  | n :: ns, cs, h => by
    rw [List.length_cons, List.range_succ_eq_map, List.map_cons, List.flatten_cons, List.map_map]
    have ih := pieces ns (cs.drop n) (by simp at h ⊢; omega)
    have he : ((fun j => (cs.drop ((n :: ns).take j).sum).take ((n :: ns).getD j 0)) ∘ Nat.succ) = fun j => ((cs.drop n).drop (ns.take j).sum).take (ns.getD j 0) := by
      funext j; simp [List.drop_drop]
    rw [he, ih]
    simp
theorem read_rows {e : TypeId} (hpos : 0 < P.cellsOf e) (hok : ∀ b, b < w.heap.size → ok b) {a : Addr} {len cap : Nat} (hle : len ≤ cap) (hcap : cap ≤ maxLen) {Q : List V → Prop}
    (hch : ∀ i, i < len → ∃ vs cs', w.cells? base (a.add (i * P.cellsOf e)) (P.cellsOf e) = some cs' ∧ All2 (VRel w ok) vs cs' ∧ Q vs) :
    ∃ rows, VRel w ok (.sl rows) (.slice (some a) len cap) ∧ rows.length = len ∧ ∀ r ∈ rows, Q r := by
  rcases Nat.eq_zero_or_pos len with h0 | h0
  · subst h0
    exact ⟨[], .emp a cap hcap, rfl, fun r h => by cases h⟩
  · have hfirst : ∃ y, w.cell? a = some y := by
      obtain ⟨vs, cs', c1, _, _⟩ := hch 0 h0
      obtain ⟨_, hl, hc'⟩ := World.cells?_some c1
      have := hc' 0 hpos
      have hx : w.cell? a = cs'[0]? := by simpa [Addr.add] using this
      exact ⟨cs'[0], by rw [hx, List.getElem?_eq_getElem (by omega)]⟩
    obtain ⟨y0, hy0⟩ := hfirst
    have hspot := World.cell?_spot hy0
    have hblk : a.block < w.heap.size := by
      unfold World.cell? at hy0
      split at hy0
      · rename_i hb2; exact (Array.getElem?_eq_some_iff.1 hb2).1
      · cases hy0
    obtain ⟨ab, ao, asp⟩ := a
    simp only at hspot hblk
    subst hspot
    have hch' : ∀ i, ∃ vs cs', i < len → w.cells? base ((⟨ab, ao, none⟩ : Addr).add (i * P.cellsOf e)) (P.cellsOf e) = some cs' ∧ All2 (VRel w ok) vs cs' ∧ Q vs := by
      intro i
      by_cases hi : i < len
      · obtain ⟨vs, cs', h⟩ := hch i hi
        exact ⟨vs, cs', fun _ => h⟩
      · exact ⟨[], [], fun h => (hi h).elim⟩
    let R := fun i => Classical.choose (hch' i)
    have hR : ∀ i, ∃ cs', i < len → w.cells? base ((⟨ab, ao, none⟩ : Addr).add (i * P.cellsOf e)) (P.cellsOf e) = some cs' ∧ All2 (VRel w ok) (R i) cs' ∧ Q (R i) := fun i => Classical.choose_spec (hch' i)
    have hlen : ((List.range len).map R).length = len := by simp
    have hget : ∀ (i : Nat) row, ((List.range len).map R)[i]? = some row → i < len ∧ row = R i := by
      intro i row h
      have hi : i < len := by have := lt_of_getElem? h; simpa using this
      rw [List.getElem?_map, List.getElem?_range hi] at h
      exact ⟨hi, (Option.some.inj h).symm⟩
    have hcell : ∀ (i : Nat) row (j : Nat) v, ((List.range len).map R)[i]? = some row → row[j]? = some v → ∃ y, w.cell? ⟨ab, ao + (i * row.length + j), none⟩ = some y ∧ VRel w ok v y := by
      intro i row j v h1 h2
      obtain ⟨hi, rfl⟩ := hget i row h1
      obtain ⟨cs', hcs⟩ := hR i
      obtain ⟨c1, c2, _⟩ := hcs hi
      obtain ⟨_, hl, hc'⟩ := World.cells?_some c1
      obtain ⟨y, hy, hr⟩ := c2.get h2
      have hj : j < P.cellsOf e := by rw [← hl, ← c2.length]; exact lt_of_getElem? h2
      refine ⟨y, ?_, hr⟩
      have := hc' j hj
      rw [hy] at this
      have hrow : (R i).length = P.cellsOf e := by rw [c2.length, hl]
      rw [hrow, ← this, Addr.add_lit, Addr.add_lit, Nat.add_assoc]
    refine ⟨(List.range len).map R, ?_, hlen, fun r hr => ?_⟩
    · have hsl := VRel.sl (w := w) (ok := ok) ((List.range len).map R) ab ao cap
        (fun i j => match ((List.range len).map R)[i]? with | some row => (w.cell? ⟨ab, ao + (i * row.length + j), none⟩).getD undef | none => undef) (fun _ => hok _ hblk) (by rw [hlen]; exact hle) hcap ?_ ?_
      · rw [hlen] at hsl; exact hsl
      · intro i row j v h1 h2
        obtain ⟨y, hy, _⟩ := hcell i row j v h1 h2
        simp [h1, hy]
      · intro i row j v h1 h2
        obtain ⟨y, hy, hr⟩ := hcell i row j v h1 h2
        simp only [h1, hy, Option.getD_some]
        exact hr
    · obtain ⟨i, hi, rfl⟩ := List.mem_map.1 hr
      obtain ⟨cs', hcs⟩ := hR i
      exact (hcs (List.mem_range.1 hi)).2.2
theorem read_deep (K : Kids P T) {D : Bool} (hD : D = true → ∀ b, b < w.heap.size → ok b) : ∀ (n : Nat) (t : TypeId) (fuel : Nat) (cs : List Value) (x : DataW H × List MemPlace), T t → deepT P D n t = true → DataW.trod enc P w base spare held fuel t cs = some x →
    ∃ vs, All2 (VRel w ok) vs cs ∧ WT P n t vs := by
  intro n
  induction n with
  | zero => intro t fuel cs x _ h; cases h
  | succ n ih =>
    intro t fuel cs x hT hf h
    simp only [deepT] at hf
    simp only [WT]
    split at hf
    · cases hf
    · rename_i i hi
      have hs := tiOf_spec hi
      obtain ⟨d, hu, hd⟩ := und_ti hs
      split at hf
      · rename_i hsh
        rw [hsh] at hd
        have : P.underlying t = some .bool := by
          rw [hu]; unfold shOf at hd; split at hd <;> first | rfl | (cases hd; done) | (split at hd <;> cases hd; done)
        obtain ⟨b, rfl, _⟩ := DataW.trod_bool this h
        exact ⟨[.lit (.bool b)], .cons (.lit _ rfl) .nil, b, rfl⟩
      · rename_i k hsh
        rw [hsh] at hd
        have : P.underlying t = some (.int k) := by
          rw [hu]; unfold shOf at hd; split at hd <;> first | (cases hd; rfl) | (cases hd; done) | (split at hd <;> cases hd; done)
        obtain ⟨b, rfl, _, hw⟩ := DataW.trod_int this h
        exact ⟨[.lit (.int k b)], .cons (.lit _ rfl) .nil, b, rfl, hw⟩
      · rename_i hsh
        rw [hsh] at hd
        have : P.underlying t = some .string := by
          rw [hu]; unfold shOf at hd; split at hd <;> first | rfl | (cases hd; done) | (split at hd <;> cases hd; done)
        obtain ⟨b, rfl, _, hw⟩ := DataW.trod_string this h
        exact ⟨[.lit (.string b)], .cons (.lit _ rfl) .nil, b, rfl, hw⟩
      · rename_i fs hsh
        rw [hsh] at hd
        obtain ⟨gs, hgu, hgs⟩ : ∃ gs : Array Field, P.underlying t = some (.struct gs) ∧ fs = gs.toList.map fun f => (f.type, f.offset) := by
          unfold shOf at hd
          split at hd <;> first | (cases hd; done) | skip
          rename_i gs
          split at hd
          · cases hd; exact ⟨gs, hu, rfl⟩
          · cases hd
        subst hgs
        obtain ⟨k1, k2, k3⟩ := K.struct hT hgu
        obtain ⟨xs, m, rfl, _, hlen, hxl, hx⟩ := DataW.trod_struct hgu h
        have hfield : ∀ (j : Nat) (f : Field), gs.toList[j]? = some f → ∃ vs, All2 (VRel w ok) vs ((cs.drop f.offset).take (P.cellsOf f.type)) ∧ WT P n f.type vs ∧ ∃ q, tiOf P f.type = some q ∧ q.size = P.cellsOf f.type := by
          intro j f hj
          have hfa : gs[j]? = some f := by simpa using hj
          have hmem : f ∈ gs.toList := List.mem_of_getElem? hj
          have hfl : deepT P D n f.type = true := by
            rw [List.all_eq_true] at hf
            exact hf (f.type, f.offset) (List.mem_map.2 ⟨f, hmem, rfl⟩)
          have hxj := hx j f hfa
          have hjx : j < xs.length := by rw [hxl]; exact (Array.getElem?_eq_some_iff.1 hfa).1
          rw [List.getElem?_eq_getElem hjx] at hxj
          obtain ⟨vs, h1, h2⟩ := ih f.type m _ _ (k1 f hmem) hfl hxj
          refine ⟨vs, h1, h2, ?_⟩
          cases n with
          | zero => cases hfl
          | succ n =>
            simp only [deepT] at hfl
            split at hfl
            · cases hfl
            · rename_i q hq
              exact ⟨q, hq, (cellsOf_ti (tiOf_spec hq)).symm⟩
        let ns := gs.toList.map fun f => P.cellsOf f.type
        have hns : cs.length = ns.sum := by rw [hlen]; exact k2
        have hget : ∀ j : Nat, j < gs.toList.length → ∃ f, gs.toList[j]? = some f := fun j hj => ⟨_, List.getElem?_eq_getElem hj⟩
        have hch : ∀ j : Nat, ∃ vs, ∀ f : Field, gs.toList[j]? = some f → All2 (VRel w ok) vs ((cs.drop f.offset).take (P.cellsOf f.type)) ∧ WT P n f.type vs ∧ ∃ q, tiOf P f.type = some q ∧ q.size = P.cellsOf f.type := by
          intro j
          cases hj : gs.toList[j]? with
          | none => exact ⟨[], fun f h => by cases h⟩
          | some f =>
            obtain ⟨vs, h⟩ := hfield j f hj
            exact ⟨vs, fun f' h' => by cases h'; exact h⟩
        let V := fun j => Classical.choose (hch j)
        have hV : ∀ (j : Nat) (f : Field), gs.toList[j]? = some f → All2 (VRel w ok) (V j) ((cs.drop f.offset).take (P.cellsOf f.type)) ∧ WT P n f.type (V j) ∧ ∃ q, tiOf P f.type = some q ∧ q.size = P.cellsOf f.type := fun j => Classical.choose_spec (hch j)
        let L := (List.range ns.length).map V
        let M := (List.range ns.length).map fun j => (cs.drop (ns.take j).sum).take (ns.getD j 0)
        have hnl : ns.length = gs.toList.length := by simp [ns]
        have hML : All2 (All2 (VRel w ok)) L M := by
          refine All2.of_get (by simp [L, M]) ?_
          intro j a b ha hb
          simp only [L, M, List.getElem?_map] at ha hb
          have hjlt : j < ns.length := by
            rcases Nat.lt_or_ge j ns.length with h | h
            · exact h
            · rw [List.getElem?_eq_none (by simpa using h)] at ha; cases ha
          rw [List.getElem?_range hjlt] at ha hb
          simp only [Option.map_some, Option.some.injEq] at ha hb
          subst ha; subst hb
          obtain ⟨f, hj⟩ := hget j (by omega)
          have e1 : (ns.take j).sum = f.offset := by rw [k3 j f hj]; simp [ns, List.map_take]
          have e2 : ns.getD j 0 = P.cellsOf f.type := by simp [ns, List.getD_eq_getElem?_getD, hj]
          rw [e1, e2]
          exact (hV j f hj).1
        have hMf : M.flatten = cs := pieces ns cs hns
        have hA := all2_flatten hML
        rw [hMf] at hA
        refine ⟨L.flatten, hA, by rw [hA.length, hlen, cellsOf_ti hs], ?_⟩
        intro f hf'
        obtain ⟨g, hg, rfl⟩ := List.mem_map.1 hf'
        obtain ⟨j, hj⟩ := List.getElem?_of_mem hg
        obtain ⟨v1, v2, q, hq, hqs⟩ := hV j g hj
        refine ⟨q, hq, ?_⟩
        have hjlt : j < ns.length := by rw [hnl]; exact lt_of_getElem? hj
        have hLj : L[j]? = some (V j) := by simp [L, hjlt]
        have hlens : ∀ i : Nat, i < ns.length → (V i).length = ns.getD i 0 := by
          intro i hi
          obtain ⟨f, hif⟩ := hget i (by omega)
          have e2 : ns.getD i 0 = P.cellsOf f.type := by simp [ns, List.getD_eq_getElem?_getD, hif]
          rw [(hV i f hif).1.length, e2, List.length_take, List.length_drop]
          have hk := k3 i f hif
          have : ((gs.toList.take i).map fun f => P.cellsOf f.type).sum + P.cellsOf f.type ≤ ns.sum := by
            have h3 : ns = (gs.toList.take i).map (fun f => P.cellsOf f.type) ++ (gs.toList.drop i).map (fun f => P.cellsOf f.type) := by
              rw [← List.map_append, List.take_append_drop]
            rw [h3, List.sum_append]
            have h4 : gs.toList.drop i = f :: gs.toList.drop (i + 1) := by
              have := lt_of_getElem? hif
              rw [List.drop_eq_getElem_cons this]
              rw [List.getElem?_eq_getElem this] at hif
              rw [Option.some.inj hif]
            rw [h4, List.map_cons, List.sum_cons]
            omega
          rw [hns]
          omega
        have hoff : ((L.take j).map List.length).sum = g.offset := by
          rw [k3 j g hj]
          congr 1
          apply List.ext_getElem?
          intro i
          by_cases hi : i < j
          · have hin : i < ns.length := by omega
            obtain ⟨f, hif⟩ := hget i (by omega)
            have e2 : ns.getD i 0 = P.cellsOf f.type := by simp [ns, List.getD_eq_getElem?_getD, hif]
            have hLi : (L.take j)[i]? = some (V i) := by rw [List.getElem?_take_of_lt hi]; simp [L, hin]
            rw [List.getElem?_map, hLi, Option.map_some, hlens i hin, e2, List.getElem?_map, List.getElem?_take_of_lt hi, hif]
            rfl
          · simp [List.getElem?_take, hi]
        have htd := flatten_take_drop L j (V j) hLj
        rw [hoff] at htd
        have : q.size = (V j).length := by
          rw [hqs, hlens j hjlt]; simp [ns, List.getD_eq_getElem?_getD, hj]
        rw [this, htd]
        exact v2
      · rename_i e hsh
        rw [hsh] at hd
        have hu' : P.underlying t = some (.slice e) := by
          rw [hu]; unfold shOf at hd; split at hd <;> first | (cases hd; rfl) | (cases hd; done) | (split at hd <;> cases hd; done)
        simp only [Bool.and_eq_true, decide_eq_true_eq] at hf
        obtain ⟨hD', hpos, hfe⟩ := hf
        rcases Go.Deep.open_slice hu' h with ⟨rfl, _⟩ | ⟨a, len, cap, m, n', DD, Pl, rfl, _, hle, hcap, hm, _, hel⟩
        · exact ⟨[.sl []], .cons .nil .nil, [], rfl, by simp [maxLen], fun r h => by cases h⟩
        · have hlm : len ≤ m := by rw [hm]; split <;> omega
          obtain ⟨rows, h1, h2, h3⟩ := read_rows (w := w) (ok := ok) (base := base) (Q := fun r => WT P n e r) hpos (hD hD') hle hcap (a := a) (fun i hi => by
            obtain ⟨cs', h2, h3⟩ := hel i (by omega)
            obtain ⟨vs, h4, h5⟩ := ih e n' _ _ (K.slice hT hu') hfe h3
            exact ⟨vs, cs', h2, h4, h5⟩)
          exact ⟨[.sl rows], .cons h1 .nil, rows, rfl, by rw [h2]; omega, h3⟩
      · cases hf
theorem read_sliceD (K : Kids P T) {D : Bool} {n : Nat} {t e : TypeId} {v : Value} {d : DataW H} {ps : List MemPlace} {r : Reach} {b0 : Nat} (ht : P.underlying t = some (.slice e)) (hT : T t) (hf : deepT P D n e = true) (hpos : 0 < P.cellsOf e) (hval : Value.okWide P w r b0 t v)
    (h : DataW.Trod enc P w base spare held t v d ps) (μ : List MB) : ∃ rows, AVRel w (fun b => b < w.heap.size) μ (.one (.v (.sl rows))) v ∧ rows.length ≤ maxLen ∧ ∀ r ∈ rows, WT P n e r := by
  have hc : Cell.ok P w r b0 t v := by
    unfold Value.okWide at hval
    rw [ht] at hval
    simp only [Cell.okWide, ht] at hval
    exact hval
  have hv : v = .slice none 0 0 ∨ ∃ a len cap, v = .slice (some a) len cap := by
    unfold Cell.ok at hc
    rw [ht] at hc
    split at hc <;> first | (exact hc.elim) | skip
    all_goals (rename_i h1; first | (cases h1; done) | skip)
    · exact .inl rfl
    · exact .inr ⟨_, _, _, rfl⟩
  obtain ⟨fuel, hfu⟩ := h
  rcases hv with rfl | ⟨a, len, cap, rfl⟩
  · exact ⟨[], .one (.v .nil), by simp [maxLen], fun r h => by cases h⟩
  · rcases Go.Deep.open_slice ht hfu with ⟨h1, _⟩ | ⟨a', len', cap', m, n', DD, Pl, h1, hb, hle, hcap, hm, _, hel⟩
    · simp [Value.cells] at h1
    · simp only [Value.cells] at h1
      obtain ⟨rfl, rfl, rfl⟩ : a = a' ∧ len = len' ∧ cap = cap' := by simpa using h1
      have hlm : len ≤ m := by rw [hm]; split <;> omega
      obtain ⟨rows, h1, h2, h3⟩ := read_rows (w := w) (ok := fun b => b < w.heap.size) (base := base) (Q := fun r => WT P n e r) hpos (fun _ h => h) hle hcap (a := a) (fun i hi => by
        obtain ⟨cs', h2, h3⟩ := hel i (by omega)
        obtain ⟨vs, h4, h5⟩ := read_deep (ok := fun b => b < w.heap.size) K (D := D) (fun _ _ h => h) n e n' _ _ (K.slice hT ht) hf h3
        exact ⟨vs, cs', h2, h4, h5⟩)
      exact ⟨rows, .one (.v h1), by rw [h2]; omega, h3⟩
theorem read_slice (K : Kids P T) {n : Nat} {t e : TypeId} {v : Value} {d : DataW H} {ps : List MemPlace} {r : Reach} {b0 : Nat} (ht : P.underlying t = some (.slice e)) (hT : T t) (hf : flatT P n e = true) (hpos : 0 < P.cellsOf e) (hval : Value.okWide P w r b0 t v)
    (h : DataW.Trod enc P w base spare held t v d ps) (μ : List MB) : ∃ rows, AVRel w (fun b => b < w.heap.size) μ (.one (.v (.sl rows))) v ∧ rows.length ≤ maxLen ∧ ∀ r ∈ rows, WT P n e r :=
  read_sliceD K (D := false) ht hT (flat_deep n e hf) hpos hval h μ
theorem below_cell {w w' : World} {B : Nat} (hb : Below B w w') {a : Addr} (h : a.block < B) : w'.cell? a = w.cell? a := by
  unfold World.cell?
  rw [hb.block a.block h]
theorem good_lt {p : MemPlace} (h : Good w p) : p.block < w.heap.size := by
  cases p with
  | cell b off =>
    obtain ⟨v, h, _⟩ := h
    unfold World.cell? at h
    split at h
    · rename_i hb; exact (Array.getElem?_eq_some_iff.1 hb).1
    · cases h
  | map b =>
    obtain ⟨es, c, h⟩ := h
    exact (Array.getElem?_eq_some_iff.1 h).1
theorem trodAll_later (K : Kids P T) (hsz : ∀ {t e : TypeId}, T t → P.underlying t = some (.slice e) → 0 < P.cellsOf e) {w' : World} (hb : Below w.heap.size w w') :
    ∀ {ts : List TypeId} {vs : List Value} {ds : List (DataW H)} {ps : List MemPlace}, (∀ t ∈ ts, T t) → DataW.TrodAll enc P w base (fun _ => true) true ts vs ds ps → DataW.TrodAll enc P w' base (fun b => decide (b < w.heap.size)) true ts vs ds ps
  | [], [], [], _, _, h => h
  | t :: ts, v :: vs, d :: ds, _, hT, ⟨p, q, ⟨fuel, h1⟩, h2, h3⟩ => by
    have hg := DataW.trod_good K (fun h => by cases h) fuel t _ _ (hT t (List.mem_cons_self ..)) h1
    refine ⟨p, q, ⟨fuel, DataW.trod_stays K hsz (fun h => by cases h) (hT t (List.mem_cons_self ..)) h1 (fun x hx => ?_) fun x hx => ?_⟩, trodAll_later K hsz hb (fun t ht => hT t (List.mem_cons_of_mem _ ht)) h2, h3⟩
    · have := good_lt (hg x hx)
      cases x with
      | cell b off => exact below_cell hb this
      | map b => exact hb.block b this
    · simpa using good_lt (hg x hx)
  | [], _ :: _, _, _, _, h => by simp [DataW.TrodAll] at h
  | _ :: _, [], _, _, _, h => by simp [DataW.TrodAll] at h
  | [], [], _ :: _, _, _, h => by simp [DataW.TrodAll] at h
  | _ :: _, _ :: _, [], _, _, h => by simp [DataW.TrodAll] at h
def slicesOk (P : Program) : Bool := (List.range P.types.size).all fun t => match P.underlying t with | some (.slice e) => decide (0 < P.cellsOf e) | _ => true
theorem slicesOk_spec (h : slicesOk P = true) {t e : TypeId} (ht : t < P.types.size) (hu : P.underlying t = some (.slice e)) : 0 < P.cellsOf e := by
  unfold slicesOk at h
  rw [List.all_eq_true] at h
  have := h t (List.mem_range.2 ht)
  rw [hu] at this
  simpa using this
theorem WT_struct {n : Nat} {t : TypeId} {i : TI} {fs : List (Nat × Nat)} {vs : List V} (hi : tiOf P t = some i) (hs : i.sh = .struct fs) (h : WT P (n + 1) t vs) : vs.length = i.size ∧ ∀ f ∈ fs, ∃ j, tiOf P f.1 = some j ∧ WT P n f.1 ((vs.drop f.2).take j.size) := by
  simp only [WT, hi, hs] at h
  exact h
end
end Go.Proofs.AE
set_option linter.unusedVariables false
set_option linter.unusedSimpArgs false
set_option maxRecDepth 100000
set_option maxHeartbeats 8000000
namespace Go.Proofs.YtkkleopmambcnaaGreatDoor
open Go Go.RowKit Go.Proofs.AE
variable {G : Nat → AV}
theorem kids : Kids Tryz.prog (· < Tryz.prog.types.size) := kids_rows (by kernel_rfl) (by kernel_rfl)
theorem slok : slicesOk Tryz.prog = true := by kernel_rfl
def someS (n : Int) : ByteArray := ⟨#[UInt8.ofNat (97 + pk n 9).toNat]⟩
theorem some_c (n : Int) (hn : i64 n) : PCall Tryz.prog G 112 [iV n] (sV (someS n)) := by
  have hk := pk_range (n := n) (m := 9) (by omega)
  have hw : IntKind.i64.wrap (97 + pk n 9) = 97 + pk n 9 := IntWalk.i64_in _ (by omega)
  have hw8 : IntKind.u8.wrap (97 + pk n 9) = 97 + pk n 9 := by
    exact IntWalk.u8_in _ (by omega)
  refine pcallc mixed Tryz.func112 ac_rostrumkeep_some ?_
  unfold someS
  repeat' (first | (with_reducible first | refine Cn (fun h => ?_) fun h => ?_ | refine And.intro ?_ ?_ | refine wR ?_ | exact wr _ _ | refine wa ?_ | apply awp_join | refine q1 (by exact picked_c _ _ (by assumption) (by simp)) ?_ | refine q1d (by exact picked_c _ _ (by assumption) (by simp)) ?_) | (with_reducible refine CallZ.z ?_) | simp -dsimp [go_sem, hw, hw8, bytesOf, AE.byteOf])
def cutS (s : ByteArray) (n : Int) : ByteArray := s.extract 0 (if n < (s.size : Int) then n else (s.size : Int)).toNat
theorem cut_c (s : ByteArray) (n : Int) (hn : 0 ≤ n) : PCall Tryz.prog G 113 [sV s, iV n] (sV (cutS s n)) := by
  refine pcallc mixed Tryz.func113 ac_rostrumkeep_cut ?_
  unfold cutS
  have h1 : 0 ≤ if n < (s.size : Int) then n else (s.size : Int) := by split <;> omega
  have h2 : (if n < (s.size : Int) then n else (s.size : Int)) ≤ (s.size : Int) := by split <;> omega
  simp -dsimp [go_sem, h1, h2]
theorem cutS_size (s : ByteArray) {n : Int} (hn : 0 ≤ n) : ((cutS s n).size : Int) ≤ n := by
  unfold cutS
  rw [ByteArray.size_extract]
  split <;> omega
def cmdText (n : Int) (text : ByteArray) : ByteArray := if pk n 3 = 0 then someS n else cutS text 6
def cmdOf (k key field n : Int) (text : ByteArray) : List C :=
  [iC k, sC (if k = 22 then ⟨#[]⟩ else someS key), sC (if k = 4 ∨ k = 5 ∨ k = 6 then someS field else ⟨#[]⟩),
   sC (if k = 1 ∨ k = 4 ∨ k = 7 ∨ k = 8 ∨ k = 11 ∨ k = 12 ∨ k = 13 ∨ k = 14 ∨ k = 15 ∨ k = 16 then cmdText n text else ⟨#[]⟩),
   iC (if k = 3 then n.tmod 1073741824 else if k = 20 then pk n 60 else if k = 14 then pk n 12 - 6 else 0)]
theorem cmd6 (n : Int) : IntKind.i64.wrap (pk n 12 - 6) = pk n 12 - 6 := by
  have := pk_range (n := n) (m := 12) (by omega)
  exact IntWalk.i64_in _ (by omega)
theorem command0_c (kind key field n : Int) (text : ByteArray) (h1 : i64 kind) (h2 : i64 key) (h3 : i64 field) (h4 : i64 n) (hk : pk kind 22 = 0) : PCall Tryz.prog G 74 [.agg [iC kind, iC key, iC field, iC n, sC text]] (.agg (cmdOf (1 + pk kind 22) key field n text)) := by
  rw [hk]
  refine pcallc mixed Tryz.func74 ac_rostrumkeep_Command ?_
  have e : IntKind.i64.wrap (1 + 0) = 1 + 0 := by rfl
  simp -dsimp [go_sem]
  refine awp_join ⟨[(1, .one (.ptr 0 0)), (2, .one (.ptr 1 0)), (3, .one (.ptr 2 0))], G, [some (.box 81 [iC kind, iC key, iC field, iC n, sC text]), some (.box 27 [iC 0, sC ⟨#[]⟩, sC ⟨#[]⟩, sC ⟨#[]⟩, iC 0]), some (.box 27 [iC (1 + 0), sC (someS key), sC ⟨#[]⟩, sC ⟨#[]⟩, iC 0])]⟩ ?_ ?_
  repeat' (first | (with_reducible first | refine Cn (fun h => ?_) fun h => ?_ | refine And.intro ?_ ?_ | refine wR ?_ | exact wr _ _ | refine wa ?_ | apply awp_join | refine q1 (by exact picked_c _ _ (by assumption) (by simp)) ?_ | refine q1d (by exact picked_c _ _ (by assumption) (by simp)) ?_ | refine q1 (by exact some_c _ (by assumption)) ?_ | refine q1d (by exact some_c _ (by assumption)) ?_ | refine q1 (by exact picked_c _ _ (by assumption) (by simp)) ?_ | refine q1d (by exact picked_c _ _ (by assumption) (by simp)) ?_ | refine q1 (by exact some_c _ (by assumption)) ?_ | refine q1d (by exact some_c _ (by assumption)) ?_ | refine q1 (by exact cut_c _ _ (by simp)) ?_ | refine q1d (by exact cut_c _ _ (by simp)) ?_) | (with_reducible refine CallZ.z ?_) | simp -dsimp [go_sem, hk, e, cmd6])
  all_goals simp_all [cmdOf, cmdText, coeCs, coeC]
theorem command1_c (kind key field n : Int) (text : ByteArray) (h1 : i64 kind) (h2 : i64 key) (h3 : i64 field) (h4 : i64 n) (hk : pk kind 22 = 1) : PCall Tryz.prog G 74 [.agg [iC kind, iC key, iC field, iC n, sC text]] (.agg (cmdOf (1 + pk kind 22) key field n text)) := by
  rw [hk]
  refine pcallc mixed Tryz.func74 ac_rostrumkeep_Command ?_
  have e : IntKind.i64.wrap (1 + 1) = 1 + 1 := by rfl
  simp -dsimp [go_sem]
  refine awp_join ⟨[(1, .one (.ptr 0 0)), (2, .one (.ptr 1 0)), (3, .one (.ptr 2 0))], G, [some (.box 81 [iC kind, iC key, iC field, iC n, sC text]), some (.box 27 [iC 0, sC ⟨#[]⟩, sC ⟨#[]⟩, sC ⟨#[]⟩, iC 0]), some (.box 27 [iC (1 + 1), sC (someS key), sC ⟨#[]⟩, sC ⟨#[]⟩, iC 0])]⟩ ?_ ?_
  repeat' (first | (with_reducible first | refine Cn (fun h => ?_) fun h => ?_ | refine And.intro ?_ ?_ | refine wR ?_ | exact wr _ _ | refine wa ?_ | apply awp_join | refine q1 (by exact picked_c _ _ (by assumption) (by simp)) ?_ | refine q1d (by exact picked_c _ _ (by assumption) (by simp)) ?_ | refine q1 (by exact some_c _ (by assumption)) ?_ | refine q1d (by exact some_c _ (by assumption)) ?_ | refine q1 (by exact picked_c _ _ (by assumption) (by simp)) ?_ | refine q1d (by exact picked_c _ _ (by assumption) (by simp)) ?_ | refine q1 (by exact some_c _ (by assumption)) ?_ | refine q1d (by exact some_c _ (by assumption)) ?_ | refine q1 (by exact cut_c _ _ (by simp)) ?_ | refine q1d (by exact cut_c _ _ (by simp)) ?_) | (with_reducible refine CallZ.z ?_) | simp -dsimp [go_sem, hk, e, cmd6])
  all_goals simp_all [cmdOf, cmdText, coeCs, coeC]
theorem command2_c (kind key field n : Int) (text : ByteArray) (h1 : i64 kind) (h2 : i64 key) (h3 : i64 field) (h4 : i64 n) (hk : pk kind 22 = 2) : PCall Tryz.prog G 74 [.agg [iC kind, iC key, iC field, iC n, sC text]] (.agg (cmdOf (1 + pk kind 22) key field n text)) := by
  rw [hk]
  refine pcallc mixed Tryz.func74 ac_rostrumkeep_Command ?_
  have e : IntKind.i64.wrap (1 + 2) = 1 + 2 := by rfl
  simp -dsimp [go_sem]
  refine awp_join ⟨[(1, .one (.ptr 0 0)), (2, .one (.ptr 1 0)), (3, .one (.ptr 2 0))], G, [some (.box 81 [iC kind, iC key, iC field, iC n, sC text]), some (.box 27 [iC 0, sC ⟨#[]⟩, sC ⟨#[]⟩, sC ⟨#[]⟩, iC 0]), some (.box 27 [iC (1 + 2), sC (someS key), sC ⟨#[]⟩, sC ⟨#[]⟩, iC 0])]⟩ ?_ ?_
  repeat' (first | (with_reducible first | refine Cn (fun h => ?_) fun h => ?_ | refine And.intro ?_ ?_ | refine wR ?_ | exact wr _ _ | refine wa ?_ | apply awp_join | refine q1 (by exact picked_c _ _ (by assumption) (by simp)) ?_ | refine q1d (by exact picked_c _ _ (by assumption) (by simp)) ?_ | refine q1 (by exact some_c _ (by assumption)) ?_ | refine q1d (by exact some_c _ (by assumption)) ?_ | refine q1 (by exact picked_c _ _ (by assumption) (by simp)) ?_ | refine q1d (by exact picked_c _ _ (by assumption) (by simp)) ?_ | refine q1 (by exact some_c _ (by assumption)) ?_ | refine q1d (by exact some_c _ (by assumption)) ?_ | refine q1 (by exact cut_c _ _ (by simp)) ?_ | refine q1d (by exact cut_c _ _ (by simp)) ?_) | (with_reducible refine CallZ.z ?_) | simp -dsimp [go_sem, hk, e, cmd6])
  all_goals simp_all [cmdOf, cmdText, coeCs, coeC]
theorem command3_c (kind key field n : Int) (text : ByteArray) (h1 : i64 kind) (h2 : i64 key) (h3 : i64 field) (h4 : i64 n) (hk : pk kind 22 = 3) : PCall Tryz.prog G 74 [.agg [iC kind, iC key, iC field, iC n, sC text]] (.agg (cmdOf (1 + pk kind 22) key field n text)) := by
  rw [hk]
  refine pcallc mixed Tryz.func74 ac_rostrumkeep_Command ?_
  have e : IntKind.i64.wrap (1 + 3) = 1 + 3 := by rfl
  simp -dsimp [go_sem]
  refine awp_join ⟨[(1, .one (.ptr 0 0)), (2, .one (.ptr 1 0)), (3, .one (.ptr 2 0))], G, [some (.box 81 [iC kind, iC key, iC field, iC n, sC text]), some (.box 27 [iC 0, sC ⟨#[]⟩, sC ⟨#[]⟩, sC ⟨#[]⟩, iC 0]), some (.box 27 [iC (1 + 3), sC (someS key), sC ⟨#[]⟩, sC ⟨#[]⟩, iC 0])]⟩ ?_ ?_
  repeat' (first | (with_reducible first | refine Cn (fun h => ?_) fun h => ?_ | refine And.intro ?_ ?_ | refine wR ?_ | exact wr _ _ | refine wa ?_ | apply awp_join | refine q1 (by exact picked_c _ _ (by assumption) (by simp)) ?_ | refine q1d (by exact picked_c _ _ (by assumption) (by simp)) ?_ | refine q1 (by exact some_c _ (by assumption)) ?_ | refine q1d (by exact some_c _ (by assumption)) ?_ | refine q1 (by exact picked_c _ _ (by assumption) (by simp)) ?_ | refine q1d (by exact picked_c _ _ (by assumption) (by simp)) ?_ | refine q1 (by exact some_c _ (by assumption)) ?_ | refine q1d (by exact some_c _ (by assumption)) ?_ | refine q1 (by exact cut_c _ _ (by simp)) ?_ | refine q1d (by exact cut_c _ _ (by simp)) ?_) | (with_reducible refine CallZ.z ?_) | simp -dsimp [go_sem, hk, e, cmd6])
  all_goals simp_all [cmdOf, cmdText, coeCs, coeC]
theorem command4_c (kind key field n : Int) (text : ByteArray) (h1 : i64 kind) (h2 : i64 key) (h3 : i64 field) (h4 : i64 n) (hk : pk kind 22 = 4) : PCall Tryz.prog G 74 [.agg [iC kind, iC key, iC field, iC n, sC text]] (.agg (cmdOf (1 + pk kind 22) key field n text)) := by
  rw [hk]
  refine pcallc mixed Tryz.func74 ac_rostrumkeep_Command ?_
  have e : IntKind.i64.wrap (1 + 4) = 1 + 4 := by rfl
  simp -dsimp [go_sem]
  refine awp_join ⟨[(1, .one (.ptr 0 0)), (2, .one (.ptr 1 0)), (3, .one (.ptr 2 0))], G, [some (.box 81 [iC kind, iC key, iC field, iC n, sC text]), some (.box 27 [iC 0, sC ⟨#[]⟩, sC ⟨#[]⟩, sC ⟨#[]⟩, iC 0]), some (.box 27 [iC (1 + 4), sC (someS key), sC ⟨#[]⟩, sC ⟨#[]⟩, iC 0])]⟩ ?_ ?_
  repeat' (first | (with_reducible first | refine Cn (fun h => ?_) fun h => ?_ | refine And.intro ?_ ?_ | refine wR ?_ | exact wr _ _ | refine wa ?_ | apply awp_join | refine q1 (by exact picked_c _ _ (by assumption) (by simp)) ?_ | refine q1d (by exact picked_c _ _ (by assumption) (by simp)) ?_ | refine q1 (by exact some_c _ (by assumption)) ?_ | refine q1d (by exact some_c _ (by assumption)) ?_ | refine q1 (by exact picked_c _ _ (by assumption) (by simp)) ?_ | refine q1d (by exact picked_c _ _ (by assumption) (by simp)) ?_ | refine q1 (by exact some_c _ (by assumption)) ?_ | refine q1d (by exact some_c _ (by assumption)) ?_ | refine q1 (by exact cut_c _ _ (by simp)) ?_ | refine q1d (by exact cut_c _ _ (by simp)) ?_) | (with_reducible refine CallZ.z ?_) | simp -dsimp [go_sem, hk, e, cmd6])
  all_goals simp_all [cmdOf, cmdText, coeCs, coeC]
theorem command5_c (kind key field n : Int) (text : ByteArray) (h1 : i64 kind) (h2 : i64 key) (h3 : i64 field) (h4 : i64 n) (hk : pk kind 22 = 5) : PCall Tryz.prog G 74 [.agg [iC kind, iC key, iC field, iC n, sC text]] (.agg (cmdOf (1 + pk kind 22) key field n text)) := by
  rw [hk]
  refine pcallc mixed Tryz.func74 ac_rostrumkeep_Command ?_
  have e : IntKind.i64.wrap (1 + 5) = 1 + 5 := by rfl
  simp -dsimp [go_sem]
  refine awp_join ⟨[(1, .one (.ptr 0 0)), (2, .one (.ptr 1 0)), (3, .one (.ptr 2 0))], G, [some (.box 81 [iC kind, iC key, iC field, iC n, sC text]), some (.box 27 [iC 0, sC ⟨#[]⟩, sC ⟨#[]⟩, sC ⟨#[]⟩, iC 0]), some (.box 27 [iC (1 + 5), sC (someS key), sC ⟨#[]⟩, sC ⟨#[]⟩, iC 0])]⟩ ?_ ?_
  repeat' (first | (with_reducible first | refine Cn (fun h => ?_) fun h => ?_ | refine And.intro ?_ ?_ | refine wR ?_ | exact wr _ _ | refine wa ?_ | apply awp_join | refine q1 (by exact picked_c _ _ (by assumption) (by simp)) ?_ | refine q1d (by exact picked_c _ _ (by assumption) (by simp)) ?_ | refine q1 (by exact some_c _ (by assumption)) ?_ | refine q1d (by exact some_c _ (by assumption)) ?_ | refine q1 (by exact picked_c _ _ (by assumption) (by simp)) ?_ | refine q1d (by exact picked_c _ _ (by assumption) (by simp)) ?_ | refine q1 (by exact some_c _ (by assumption)) ?_ | refine q1d (by exact some_c _ (by assumption)) ?_ | refine q1 (by exact cut_c _ _ (by simp)) ?_ | refine q1d (by exact cut_c _ _ (by simp)) ?_) | (with_reducible refine CallZ.z ?_) | simp -dsimp [go_sem, hk, e, cmd6])
  all_goals simp_all [cmdOf, cmdText, coeCs, coeC]
theorem command6_c (kind key field n : Int) (text : ByteArray) (h1 : i64 kind) (h2 : i64 key) (h3 : i64 field) (h4 : i64 n) (hk : pk kind 22 = 6) : PCall Tryz.prog G 74 [.agg [iC kind, iC key, iC field, iC n, sC text]] (.agg (cmdOf (1 + pk kind 22) key field n text)) := by
  rw [hk]
  refine pcallc mixed Tryz.func74 ac_rostrumkeep_Command ?_
  have e : IntKind.i64.wrap (1 + 6) = 1 + 6 := by rfl
  simp -dsimp [go_sem]
  refine awp_join ⟨[(1, .one (.ptr 0 0)), (2, .one (.ptr 1 0)), (3, .one (.ptr 2 0))], G, [some (.box 81 [iC kind, iC key, iC field, iC n, sC text]), some (.box 27 [iC 0, sC ⟨#[]⟩, sC ⟨#[]⟩, sC ⟨#[]⟩, iC 0]), some (.box 27 [iC (1 + 6), sC (someS key), sC ⟨#[]⟩, sC ⟨#[]⟩, iC 0])]⟩ ?_ ?_
  repeat' (first | (with_reducible first | refine Cn (fun h => ?_) fun h => ?_ | refine And.intro ?_ ?_ | refine wR ?_ | exact wr _ _ | refine wa ?_ | apply awp_join | refine q1 (by exact picked_c _ _ (by assumption) (by simp)) ?_ | refine q1d (by exact picked_c _ _ (by assumption) (by simp)) ?_ | refine q1 (by exact some_c _ (by assumption)) ?_ | refine q1d (by exact some_c _ (by assumption)) ?_ | refine q1 (by exact picked_c _ _ (by assumption) (by simp)) ?_ | refine q1d (by exact picked_c _ _ (by assumption) (by simp)) ?_ | refine q1 (by exact some_c _ (by assumption)) ?_ | refine q1d (by exact some_c _ (by assumption)) ?_ | refine q1 (by exact cut_c _ _ (by simp)) ?_ | refine q1d (by exact cut_c _ _ (by simp)) ?_) | (with_reducible refine CallZ.z ?_) | simp -dsimp [go_sem, hk, e, cmd6])
  all_goals simp_all [cmdOf, cmdText, coeCs, coeC]
theorem command7_c (kind key field n : Int) (text : ByteArray) (h1 : i64 kind) (h2 : i64 key) (h3 : i64 field) (h4 : i64 n) (hk : pk kind 22 = 7) : PCall Tryz.prog G 74 [.agg [iC kind, iC key, iC field, iC n, sC text]] (.agg (cmdOf (1 + pk kind 22) key field n text)) := by
  rw [hk]
  refine pcallc mixed Tryz.func74 ac_rostrumkeep_Command ?_
  have e : IntKind.i64.wrap (1 + 7) = 1 + 7 := by rfl
  simp -dsimp [go_sem]
  refine awp_join ⟨[(1, .one (.ptr 0 0)), (2, .one (.ptr 1 0)), (3, .one (.ptr 2 0))], G, [some (.box 81 [iC kind, iC key, iC field, iC n, sC text]), some (.box 27 [iC 0, sC ⟨#[]⟩, sC ⟨#[]⟩, sC ⟨#[]⟩, iC 0]), some (.box 27 [iC (1 + 7), sC (someS key), sC ⟨#[]⟩, sC ⟨#[]⟩, iC 0])]⟩ ?_ ?_
  repeat' (first | (with_reducible first | refine Cn (fun h => ?_) fun h => ?_ | refine And.intro ?_ ?_ | refine wR ?_ | exact wr _ _ | refine wa ?_ | apply awp_join | refine q1 (by exact picked_c _ _ (by assumption) (by simp)) ?_ | refine q1d (by exact picked_c _ _ (by assumption) (by simp)) ?_ | refine q1 (by exact some_c _ (by assumption)) ?_ | refine q1d (by exact some_c _ (by assumption)) ?_ | refine q1 (by exact picked_c _ _ (by assumption) (by simp)) ?_ | refine q1d (by exact picked_c _ _ (by assumption) (by simp)) ?_ | refine q1 (by exact some_c _ (by assumption)) ?_ | refine q1d (by exact some_c _ (by assumption)) ?_ | refine q1 (by exact cut_c _ _ (by simp)) ?_ | refine q1d (by exact cut_c _ _ (by simp)) ?_) | (with_reducible refine CallZ.z ?_) | simp -dsimp [go_sem, hk, e, cmd6])
  all_goals simp_all [cmdOf, cmdText, coeCs, coeC]
theorem command8_c (kind key field n : Int) (text : ByteArray) (h1 : i64 kind) (h2 : i64 key) (h3 : i64 field) (h4 : i64 n) (hk : pk kind 22 = 8) : PCall Tryz.prog G 74 [.agg [iC kind, iC key, iC field, iC n, sC text]] (.agg (cmdOf (1 + pk kind 22) key field n text)) := by
  rw [hk]
  refine pcallc mixed Tryz.func74 ac_rostrumkeep_Command ?_
  have e : IntKind.i64.wrap (1 + 8) = 1 + 8 := by rfl
  simp -dsimp [go_sem]
  refine awp_join ⟨[(1, .one (.ptr 0 0)), (2, .one (.ptr 1 0)), (3, .one (.ptr 2 0))], G, [some (.box 81 [iC kind, iC key, iC field, iC n, sC text]), some (.box 27 [iC 0, sC ⟨#[]⟩, sC ⟨#[]⟩, sC ⟨#[]⟩, iC 0]), some (.box 27 [iC (1 + 8), sC (someS key), sC ⟨#[]⟩, sC ⟨#[]⟩, iC 0])]⟩ ?_ ?_
  repeat' (first | (with_reducible first | refine Cn (fun h => ?_) fun h => ?_ | refine And.intro ?_ ?_ | refine wR ?_ | exact wr _ _ | refine wa ?_ | apply awp_join | refine q1 (by exact picked_c _ _ (by assumption) (by simp)) ?_ | refine q1d (by exact picked_c _ _ (by assumption) (by simp)) ?_ | refine q1 (by exact some_c _ (by assumption)) ?_ | refine q1d (by exact some_c _ (by assumption)) ?_ | refine q1 (by exact picked_c _ _ (by assumption) (by simp)) ?_ | refine q1d (by exact picked_c _ _ (by assumption) (by simp)) ?_ | refine q1 (by exact some_c _ (by assumption)) ?_ | refine q1d (by exact some_c _ (by assumption)) ?_ | refine q1 (by exact cut_c _ _ (by simp)) ?_ | refine q1d (by exact cut_c _ _ (by simp)) ?_) | (with_reducible refine CallZ.z ?_) | simp -dsimp [go_sem, hk, e, cmd6])
  all_goals simp_all [cmdOf, cmdText, coeCs, coeC]
theorem command9_c (kind key field n : Int) (text : ByteArray) (h1 : i64 kind) (h2 : i64 key) (h3 : i64 field) (h4 : i64 n) (hk : pk kind 22 = 9) : PCall Tryz.prog G 74 [.agg [iC kind, iC key, iC field, iC n, sC text]] (.agg (cmdOf (1 + pk kind 22) key field n text)) := by
  rw [hk]
  refine pcallc mixed Tryz.func74 ac_rostrumkeep_Command ?_
  have e : IntKind.i64.wrap (1 + 9) = 1 + 9 := by rfl
  simp -dsimp [go_sem]
  refine awp_join ⟨[(1, .one (.ptr 0 0)), (2, .one (.ptr 1 0)), (3, .one (.ptr 2 0))], G, [some (.box 81 [iC kind, iC key, iC field, iC n, sC text]), some (.box 27 [iC 0, sC ⟨#[]⟩, sC ⟨#[]⟩, sC ⟨#[]⟩, iC 0]), some (.box 27 [iC (1 + 9), sC (someS key), sC ⟨#[]⟩, sC ⟨#[]⟩, iC 0])]⟩ ?_ ?_
  repeat' (first | (with_reducible first | refine Cn (fun h => ?_) fun h => ?_ | refine And.intro ?_ ?_ | refine wR ?_ | exact wr _ _ | refine wa ?_ | apply awp_join | refine q1 (by exact picked_c _ _ (by assumption) (by simp)) ?_ | refine q1d (by exact picked_c _ _ (by assumption) (by simp)) ?_ | refine q1 (by exact some_c _ (by assumption)) ?_ | refine q1d (by exact some_c _ (by assumption)) ?_ | refine q1 (by exact picked_c _ _ (by assumption) (by simp)) ?_ | refine q1d (by exact picked_c _ _ (by assumption) (by simp)) ?_ | refine q1 (by exact some_c _ (by assumption)) ?_ | refine q1d (by exact some_c _ (by assumption)) ?_ | refine q1 (by exact cut_c _ _ (by simp)) ?_ | refine q1d (by exact cut_c _ _ (by simp)) ?_) | (with_reducible refine CallZ.z ?_) | simp -dsimp [go_sem, hk, e, cmd6])
  all_goals simp_all [cmdOf, cmdText, coeCs, coeC]
theorem command10_c (kind key field n : Int) (text : ByteArray) (h1 : i64 kind) (h2 : i64 key) (h3 : i64 field) (h4 : i64 n) (hk : pk kind 22 = 10) : PCall Tryz.prog G 74 [.agg [iC kind, iC key, iC field, iC n, sC text]] (.agg (cmdOf (1 + pk kind 22) key field n text)) := by
  rw [hk]
  refine pcallc mixed Tryz.func74 ac_rostrumkeep_Command ?_
  have e : IntKind.i64.wrap (1 + 10) = 1 + 10 := by rfl
  simp -dsimp [go_sem]
  refine awp_join ⟨[(1, .one (.ptr 0 0)), (2, .one (.ptr 1 0)), (3, .one (.ptr 2 0))], G, [some (.box 81 [iC kind, iC key, iC field, iC n, sC text]), some (.box 27 [iC 0, sC ⟨#[]⟩, sC ⟨#[]⟩, sC ⟨#[]⟩, iC 0]), some (.box 27 [iC (1 + 10), sC (someS key), sC ⟨#[]⟩, sC ⟨#[]⟩, iC 0])]⟩ ?_ ?_
  repeat' (first | (with_reducible first | refine Cn (fun h => ?_) fun h => ?_ | refine And.intro ?_ ?_ | refine wR ?_ | exact wr _ _ | refine wa ?_ | apply awp_join | refine q1 (by exact picked_c _ _ (by assumption) (by simp)) ?_ | refine q1d (by exact picked_c _ _ (by assumption) (by simp)) ?_ | refine q1 (by exact some_c _ (by assumption)) ?_ | refine q1d (by exact some_c _ (by assumption)) ?_ | refine q1 (by exact picked_c _ _ (by assumption) (by simp)) ?_ | refine q1d (by exact picked_c _ _ (by assumption) (by simp)) ?_ | refine q1 (by exact some_c _ (by assumption)) ?_ | refine q1d (by exact some_c _ (by assumption)) ?_ | refine q1 (by exact cut_c _ _ (by simp)) ?_ | refine q1d (by exact cut_c _ _ (by simp)) ?_) | (with_reducible refine CallZ.z ?_) | simp -dsimp [go_sem, hk, e, cmd6])
  all_goals simp_all [cmdOf, cmdText, coeCs, coeC]
theorem command11_c (kind key field n : Int) (text : ByteArray) (h1 : i64 kind) (h2 : i64 key) (h3 : i64 field) (h4 : i64 n) (hk : pk kind 22 = 11) : PCall Tryz.prog G 74 [.agg [iC kind, iC key, iC field, iC n, sC text]] (.agg (cmdOf (1 + pk kind 22) key field n text)) := by
  rw [hk]
  refine pcallc mixed Tryz.func74 ac_rostrumkeep_Command ?_
  have e : IntKind.i64.wrap (1 + 11) = 1 + 11 := by rfl
  simp -dsimp [go_sem]
  refine awp_join ⟨[(1, .one (.ptr 0 0)), (2, .one (.ptr 1 0)), (3, .one (.ptr 2 0))], G, [some (.box 81 [iC kind, iC key, iC field, iC n, sC text]), some (.box 27 [iC 0, sC ⟨#[]⟩, sC ⟨#[]⟩, sC ⟨#[]⟩, iC 0]), some (.box 27 [iC (1 + 11), sC (someS key), sC ⟨#[]⟩, sC ⟨#[]⟩, iC 0])]⟩ ?_ ?_
  repeat' (first | (with_reducible first | refine Cn (fun h => ?_) fun h => ?_ | refine And.intro ?_ ?_ | refine wR ?_ | exact wr _ _ | refine wa ?_ | apply awp_join | refine q1 (by exact picked_c _ _ (by assumption) (by simp)) ?_ | refine q1d (by exact picked_c _ _ (by assumption) (by simp)) ?_ | refine q1 (by exact some_c _ (by assumption)) ?_ | refine q1d (by exact some_c _ (by assumption)) ?_ | refine q1 (by exact picked_c _ _ (by assumption) (by simp)) ?_ | refine q1d (by exact picked_c _ _ (by assumption) (by simp)) ?_ | refine q1 (by exact some_c _ (by assumption)) ?_ | refine q1d (by exact some_c _ (by assumption)) ?_ | refine q1 (by exact cut_c _ _ (by simp)) ?_ | refine q1d (by exact cut_c _ _ (by simp)) ?_) | (with_reducible refine CallZ.z ?_) | simp -dsimp [go_sem, hk, e, cmd6])
  all_goals simp_all [cmdOf, cmdText, coeCs, coeC]
theorem command12_c (kind key field n : Int) (text : ByteArray) (h1 : i64 kind) (h2 : i64 key) (h3 : i64 field) (h4 : i64 n) (hk : pk kind 22 = 12) : PCall Tryz.prog G 74 [.agg [iC kind, iC key, iC field, iC n, sC text]] (.agg (cmdOf (1 + pk kind 22) key field n text)) := by
  rw [hk]
  refine pcallc mixed Tryz.func74 ac_rostrumkeep_Command ?_
  have e : IntKind.i64.wrap (1 + 12) = 1 + 12 := by rfl
  simp -dsimp [go_sem]
  refine awp_join ⟨[(1, .one (.ptr 0 0)), (2, .one (.ptr 1 0)), (3, .one (.ptr 2 0))], G, [some (.box 81 [iC kind, iC key, iC field, iC n, sC text]), some (.box 27 [iC 0, sC ⟨#[]⟩, sC ⟨#[]⟩, sC ⟨#[]⟩, iC 0]), some (.box 27 [iC (1 + 12), sC (someS key), sC ⟨#[]⟩, sC ⟨#[]⟩, iC 0])]⟩ ?_ ?_
  repeat' (first | (with_reducible first | refine Cn (fun h => ?_) fun h => ?_ | refine And.intro ?_ ?_ | refine wR ?_ | exact wr _ _ | refine wa ?_ | apply awp_join | refine q1 (by exact picked_c _ _ (by assumption) (by simp)) ?_ | refine q1d (by exact picked_c _ _ (by assumption) (by simp)) ?_ | refine q1 (by exact some_c _ (by assumption)) ?_ | refine q1d (by exact some_c _ (by assumption)) ?_ | refine q1 (by exact picked_c _ _ (by assumption) (by simp)) ?_ | refine q1d (by exact picked_c _ _ (by assumption) (by simp)) ?_ | refine q1 (by exact some_c _ (by assumption)) ?_ | refine q1d (by exact some_c _ (by assumption)) ?_ | refine q1 (by exact cut_c _ _ (by simp)) ?_ | refine q1d (by exact cut_c _ _ (by simp)) ?_) | (with_reducible refine CallZ.z ?_) | simp -dsimp [go_sem, hk, e, cmd6])
  all_goals simp_all [cmdOf, cmdText, coeCs, coeC]
theorem command13_c (kind key field n : Int) (text : ByteArray) (h1 : i64 kind) (h2 : i64 key) (h3 : i64 field) (h4 : i64 n) (hk : pk kind 22 = 13) : PCall Tryz.prog G 74 [.agg [iC kind, iC key, iC field, iC n, sC text]] (.agg (cmdOf (1 + pk kind 22) key field n text)) := by
  rw [hk]
  refine pcallc mixed Tryz.func74 ac_rostrumkeep_Command ?_
  have e : IntKind.i64.wrap (1 + 13) = 1 + 13 := by rfl
  simp -dsimp [go_sem]
  refine awp_join ⟨[(1, .one (.ptr 0 0)), (2, .one (.ptr 1 0)), (3, .one (.ptr 2 0))], G, [some (.box 81 [iC kind, iC key, iC field, iC n, sC text]), some (.box 27 [iC 0, sC ⟨#[]⟩, sC ⟨#[]⟩, sC ⟨#[]⟩, iC 0]), some (.box 27 [iC (1 + 13), sC (someS key), sC ⟨#[]⟩, sC ⟨#[]⟩, iC 0])]⟩ ?_ ?_
  repeat' (first | (with_reducible first | refine Cn (fun h => ?_) fun h => ?_ | refine And.intro ?_ ?_ | refine wR ?_ | exact wr _ _ | refine wa ?_ | apply awp_join | refine q1 (by exact picked_c _ _ (by assumption) (by simp)) ?_ | refine q1d (by exact picked_c _ _ (by assumption) (by simp)) ?_ | refine q1 (by exact some_c _ (by assumption)) ?_ | refine q1d (by exact some_c _ (by assumption)) ?_ | refine q1 (by exact picked_c _ _ (by assumption) (by simp)) ?_ | refine q1d (by exact picked_c _ _ (by assumption) (by simp)) ?_ | refine q1 (by exact some_c _ (by assumption)) ?_ | refine q1d (by exact some_c _ (by assumption)) ?_ | refine q1 (by exact cut_c _ _ (by simp)) ?_ | refine q1d (by exact cut_c _ _ (by simp)) ?_) | (with_reducible refine CallZ.z ?_) | simp -dsimp [go_sem, hk, e, cmd6])
  all_goals simp_all [cmdOf, cmdText, coeCs, coeC]
theorem command14_c (kind key field n : Int) (text : ByteArray) (h1 : i64 kind) (h2 : i64 key) (h3 : i64 field) (h4 : i64 n) (hk : pk kind 22 = 14) : PCall Tryz.prog G 74 [.agg [iC kind, iC key, iC field, iC n, sC text]] (.agg (cmdOf (1 + pk kind 22) key field n text)) := by
  rw [hk]
  refine pcallc mixed Tryz.func74 ac_rostrumkeep_Command ?_
  have e : IntKind.i64.wrap (1 + 14) = 1 + 14 := by rfl
  simp -dsimp [go_sem]
  refine awp_join ⟨[(1, .one (.ptr 0 0)), (2, .one (.ptr 1 0)), (3, .one (.ptr 2 0))], G, [some (.box 81 [iC kind, iC key, iC field, iC n, sC text]), some (.box 27 [iC 0, sC ⟨#[]⟩, sC ⟨#[]⟩, sC ⟨#[]⟩, iC 0]), some (.box 27 [iC (1 + 14), sC (someS key), sC ⟨#[]⟩, sC ⟨#[]⟩, iC 0])]⟩ ?_ ?_
  repeat' (first | (with_reducible first | refine Cn (fun h => ?_) fun h => ?_ | refine And.intro ?_ ?_ | refine wR ?_ | exact wr _ _ | refine wa ?_ | apply awp_join | refine q1 (by exact picked_c _ _ (by assumption) (by simp)) ?_ | refine q1d (by exact picked_c _ _ (by assumption) (by simp)) ?_ | refine q1 (by exact some_c _ (by assumption)) ?_ | refine q1d (by exact some_c _ (by assumption)) ?_ | refine q1 (by exact picked_c _ _ (by assumption) (by simp)) ?_ | refine q1d (by exact picked_c _ _ (by assumption) (by simp)) ?_ | refine q1 (by exact some_c _ (by assumption)) ?_ | refine q1d (by exact some_c _ (by assumption)) ?_ | refine q1 (by exact cut_c _ _ (by simp)) ?_ | refine q1d (by exact cut_c _ _ (by simp)) ?_) | (with_reducible refine CallZ.z ?_) | simp -dsimp [go_sem, hk, e, cmd6])
  all_goals simp_all [cmdOf, cmdText, coeCs, coeC]
theorem command15_c (kind key field n : Int) (text : ByteArray) (h1 : i64 kind) (h2 : i64 key) (h3 : i64 field) (h4 : i64 n) (hk : pk kind 22 = 15) : PCall Tryz.prog G 74 [.agg [iC kind, iC key, iC field, iC n, sC text]] (.agg (cmdOf (1 + pk kind 22) key field n text)) := by
  rw [hk]
  refine pcallc mixed Tryz.func74 ac_rostrumkeep_Command ?_
  have e : IntKind.i64.wrap (1 + 15) = 1 + 15 := by rfl
  simp -dsimp [go_sem]
  refine awp_join ⟨[(1, .one (.ptr 0 0)), (2, .one (.ptr 1 0)), (3, .one (.ptr 2 0))], G, [some (.box 81 [iC kind, iC key, iC field, iC n, sC text]), some (.box 27 [iC 0, sC ⟨#[]⟩, sC ⟨#[]⟩, sC ⟨#[]⟩, iC 0]), some (.box 27 [iC (1 + 15), sC (someS key), sC ⟨#[]⟩, sC ⟨#[]⟩, iC 0])]⟩ ?_ ?_
  repeat' (first | (with_reducible first | refine Cn (fun h => ?_) fun h => ?_ | refine And.intro ?_ ?_ | refine wR ?_ | exact wr _ _ | refine wa ?_ | apply awp_join | refine q1 (by exact picked_c _ _ (by assumption) (by simp)) ?_ | refine q1d (by exact picked_c _ _ (by assumption) (by simp)) ?_ | refine q1 (by exact some_c _ (by assumption)) ?_ | refine q1d (by exact some_c _ (by assumption)) ?_ | refine q1 (by exact picked_c _ _ (by assumption) (by simp)) ?_ | refine q1d (by exact picked_c _ _ (by assumption) (by simp)) ?_ | refine q1 (by exact some_c _ (by assumption)) ?_ | refine q1d (by exact some_c _ (by assumption)) ?_ | refine q1 (by exact cut_c _ _ (by simp)) ?_ | refine q1d (by exact cut_c _ _ (by simp)) ?_) | (with_reducible refine CallZ.z ?_) | simp -dsimp [go_sem, hk, e, cmd6])
  all_goals simp_all [cmdOf, cmdText, coeCs, coeC]
theorem command16_c (kind key field n : Int) (text : ByteArray) (h1 : i64 kind) (h2 : i64 key) (h3 : i64 field) (h4 : i64 n) (hk : pk kind 22 = 16) : PCall Tryz.prog G 74 [.agg [iC kind, iC key, iC field, iC n, sC text]] (.agg (cmdOf (1 + pk kind 22) key field n text)) := by
  rw [hk]
  refine pcallc mixed Tryz.func74 ac_rostrumkeep_Command ?_
  have e : IntKind.i64.wrap (1 + 16) = 1 + 16 := by rfl
  simp -dsimp [go_sem]
  refine awp_join ⟨[(1, .one (.ptr 0 0)), (2, .one (.ptr 1 0)), (3, .one (.ptr 2 0))], G, [some (.box 81 [iC kind, iC key, iC field, iC n, sC text]), some (.box 27 [iC 0, sC ⟨#[]⟩, sC ⟨#[]⟩, sC ⟨#[]⟩, iC 0]), some (.box 27 [iC (1 + 16), sC (someS key), sC ⟨#[]⟩, sC ⟨#[]⟩, iC 0])]⟩ ?_ ?_
  repeat' (first | (with_reducible first | refine Cn (fun h => ?_) fun h => ?_ | refine And.intro ?_ ?_ | refine wR ?_ | exact wr _ _ | refine wa ?_ | apply awp_join | refine q1 (by exact picked_c _ _ (by assumption) (by simp)) ?_ | refine q1d (by exact picked_c _ _ (by assumption) (by simp)) ?_ | refine q1 (by exact some_c _ (by assumption)) ?_ | refine q1d (by exact some_c _ (by assumption)) ?_ | refine q1 (by exact picked_c _ _ (by assumption) (by simp)) ?_ | refine q1d (by exact picked_c _ _ (by assumption) (by simp)) ?_ | refine q1 (by exact some_c _ (by assumption)) ?_ | refine q1d (by exact some_c _ (by assumption)) ?_ | refine q1 (by exact cut_c _ _ (by simp)) ?_ | refine q1d (by exact cut_c _ _ (by simp)) ?_) | (with_reducible refine CallZ.z ?_) | simp -dsimp [go_sem, hk, e, cmd6])
  all_goals simp_all [cmdOf, cmdText, coeCs, coeC]
theorem command17_c (kind key field n : Int) (text : ByteArray) (h1 : i64 kind) (h2 : i64 key) (h3 : i64 field) (h4 : i64 n) (hk : pk kind 22 = 17) : PCall Tryz.prog G 74 [.agg [iC kind, iC key, iC field, iC n, sC text]] (.agg (cmdOf (1 + pk kind 22) key field n text)) := by
  rw [hk]
  refine pcallc mixed Tryz.func74 ac_rostrumkeep_Command ?_
  have e : IntKind.i64.wrap (1 + 17) = 1 + 17 := by rfl
  simp -dsimp [go_sem]
  refine awp_join ⟨[(1, .one (.ptr 0 0)), (2, .one (.ptr 1 0)), (3, .one (.ptr 2 0))], G, [some (.box 81 [iC kind, iC key, iC field, iC n, sC text]), some (.box 27 [iC 0, sC ⟨#[]⟩, sC ⟨#[]⟩, sC ⟨#[]⟩, iC 0]), some (.box 27 [iC (1 + 17), sC (someS key), sC ⟨#[]⟩, sC ⟨#[]⟩, iC 0])]⟩ ?_ ?_
  repeat' (first | (with_reducible first | refine Cn (fun h => ?_) fun h => ?_ | refine And.intro ?_ ?_ | refine wR ?_ | exact wr _ _ | refine wa ?_ | apply awp_join | refine q1 (by exact picked_c _ _ (by assumption) (by simp)) ?_ | refine q1d (by exact picked_c _ _ (by assumption) (by simp)) ?_ | refine q1 (by exact some_c _ (by assumption)) ?_ | refine q1d (by exact some_c _ (by assumption)) ?_ | refine q1 (by exact picked_c _ _ (by assumption) (by simp)) ?_ | refine q1d (by exact picked_c _ _ (by assumption) (by simp)) ?_ | refine q1 (by exact some_c _ (by assumption)) ?_ | refine q1d (by exact some_c _ (by assumption)) ?_ | refine q1 (by exact cut_c _ _ (by simp)) ?_ | refine q1d (by exact cut_c _ _ (by simp)) ?_) | (with_reducible refine CallZ.z ?_) | simp -dsimp [go_sem, hk, e, cmd6])
  all_goals simp_all [cmdOf, cmdText, coeCs, coeC]
theorem command18_c (kind key field n : Int) (text : ByteArray) (h1 : i64 kind) (h2 : i64 key) (h3 : i64 field) (h4 : i64 n) (hk : pk kind 22 = 18) : PCall Tryz.prog G 74 [.agg [iC kind, iC key, iC field, iC n, sC text]] (.agg (cmdOf (1 + pk kind 22) key field n text)) := by
  rw [hk]
  refine pcallc mixed Tryz.func74 ac_rostrumkeep_Command ?_
  have e : IntKind.i64.wrap (1 + 18) = 1 + 18 := by rfl
  simp -dsimp [go_sem]
  refine awp_join ⟨[(1, .one (.ptr 0 0)), (2, .one (.ptr 1 0)), (3, .one (.ptr 2 0))], G, [some (.box 81 [iC kind, iC key, iC field, iC n, sC text]), some (.box 27 [iC 0, sC ⟨#[]⟩, sC ⟨#[]⟩, sC ⟨#[]⟩, iC 0]), some (.box 27 [iC (1 + 18), sC (someS key), sC ⟨#[]⟩, sC ⟨#[]⟩, iC 0])]⟩ ?_ ?_
  repeat' (first | (with_reducible first | refine Cn (fun h => ?_) fun h => ?_ | refine And.intro ?_ ?_ | refine wR ?_ | exact wr _ _ | refine wa ?_ | apply awp_join | refine q1 (by exact picked_c _ _ (by assumption) (by simp)) ?_ | refine q1d (by exact picked_c _ _ (by assumption) (by simp)) ?_ | refine q1 (by exact some_c _ (by assumption)) ?_ | refine q1d (by exact some_c _ (by assumption)) ?_ | refine q1 (by exact picked_c _ _ (by assumption) (by simp)) ?_ | refine q1d (by exact picked_c _ _ (by assumption) (by simp)) ?_ | refine q1 (by exact some_c _ (by assumption)) ?_ | refine q1d (by exact some_c _ (by assumption)) ?_ | refine q1 (by exact cut_c _ _ (by simp)) ?_ | refine q1d (by exact cut_c _ _ (by simp)) ?_) | (with_reducible refine CallZ.z ?_) | simp -dsimp [go_sem, hk, e, cmd6])
  all_goals simp_all [cmdOf, cmdText, coeCs, coeC]
theorem command19_c (kind key field n : Int) (text : ByteArray) (h1 : i64 kind) (h2 : i64 key) (h3 : i64 field) (h4 : i64 n) (hk : pk kind 22 = 19) : PCall Tryz.prog G 74 [.agg [iC kind, iC key, iC field, iC n, sC text]] (.agg (cmdOf (1 + pk kind 22) key field n text)) := by
  rw [hk]
  refine pcallc mixed Tryz.func74 ac_rostrumkeep_Command ?_
  have e : IntKind.i64.wrap (1 + 19) = 1 + 19 := by rfl
  simp -dsimp [go_sem]
  refine awp_join ⟨[(1, .one (.ptr 0 0)), (2, .one (.ptr 1 0)), (3, .one (.ptr 2 0))], G, [some (.box 81 [iC kind, iC key, iC field, iC n, sC text]), some (.box 27 [iC 0, sC ⟨#[]⟩, sC ⟨#[]⟩, sC ⟨#[]⟩, iC 0]), some (.box 27 [iC (1 + 19), sC (someS key), sC ⟨#[]⟩, sC ⟨#[]⟩, iC 0])]⟩ ?_ ?_
  repeat' (first | (with_reducible first | refine Cn (fun h => ?_) fun h => ?_ | refine And.intro ?_ ?_ | refine wR ?_ | exact wr _ _ | refine wa ?_ | apply awp_join | refine q1 (by exact picked_c _ _ (by assumption) (by simp)) ?_ | refine q1d (by exact picked_c _ _ (by assumption) (by simp)) ?_ | refine q1 (by exact some_c _ (by assumption)) ?_ | refine q1d (by exact some_c _ (by assumption)) ?_ | refine q1 (by exact picked_c _ _ (by assumption) (by simp)) ?_ | refine q1d (by exact picked_c _ _ (by assumption) (by simp)) ?_ | refine q1 (by exact some_c _ (by assumption)) ?_ | refine q1d (by exact some_c _ (by assumption)) ?_ | refine q1 (by exact cut_c _ _ (by simp)) ?_ | refine q1d (by exact cut_c _ _ (by simp)) ?_) | (with_reducible refine CallZ.z ?_) | simp -dsimp [go_sem, hk, e, cmd6])
  all_goals simp_all [cmdOf, cmdText, coeCs, coeC]
theorem command20_c (kind key field n : Int) (text : ByteArray) (h1 : i64 kind) (h2 : i64 key) (h3 : i64 field) (h4 : i64 n) (hk : pk kind 22 = 20) : PCall Tryz.prog G 74 [.agg [iC kind, iC key, iC field, iC n, sC text]] (.agg (cmdOf (1 + pk kind 22) key field n text)) := by
  rw [hk]
  refine pcallc mixed Tryz.func74 ac_rostrumkeep_Command ?_
  have e : IntKind.i64.wrap (1 + 20) = 1 + 20 := by rfl
  simp -dsimp [go_sem]
  refine awp_join ⟨[(1, .one (.ptr 0 0)), (2, .one (.ptr 1 0)), (3, .one (.ptr 2 0))], G, [some (.box 81 [iC kind, iC key, iC field, iC n, sC text]), some (.box 27 [iC 0, sC ⟨#[]⟩, sC ⟨#[]⟩, sC ⟨#[]⟩, iC 0]), some (.box 27 [iC (1 + 20), sC (someS key), sC ⟨#[]⟩, sC ⟨#[]⟩, iC 0])]⟩ ?_ ?_
  repeat' (first | (with_reducible first | refine Cn (fun h => ?_) fun h => ?_ | refine And.intro ?_ ?_ | refine wR ?_ | exact wr _ _ | refine wa ?_ | apply awp_join | refine q1 (by exact picked_c _ _ (by assumption) (by simp)) ?_ | refine q1d (by exact picked_c _ _ (by assumption) (by simp)) ?_ | refine q1 (by exact some_c _ (by assumption)) ?_ | refine q1d (by exact some_c _ (by assumption)) ?_ | refine q1 (by exact picked_c _ _ (by assumption) (by simp)) ?_ | refine q1d (by exact picked_c _ _ (by assumption) (by simp)) ?_ | refine q1 (by exact some_c _ (by assumption)) ?_ | refine q1d (by exact some_c _ (by assumption)) ?_ | refine q1 (by exact cut_c _ _ (by simp)) ?_ | refine q1d (by exact cut_c _ _ (by simp)) ?_) | (with_reducible refine CallZ.z ?_) | simp -dsimp [go_sem, hk, e, cmd6])
  all_goals simp_all [cmdOf, cmdText, coeCs, coeC]
theorem command21_c (kind key field n : Int) (text : ByteArray) (h1 : i64 kind) (h2 : i64 key) (h3 : i64 field) (h4 : i64 n) (hk : pk kind 22 = 21) : PCall Tryz.prog G 74 [.agg [iC kind, iC key, iC field, iC n, sC text]] (.agg (cmdOf (1 + pk kind 22) key field n text)) := by
  rw [hk]
  refine pcallc mixed Tryz.func74 ac_rostrumkeep_Command ?_
  have e : IntKind.i64.wrap (1 + 21) = 1 + 21 := by rfl
  simp -dsimp [go_sem]
  refine awp_join ⟨[(1, .one (.ptr 0 0)), (2, .one (.ptr 1 0)), (3, .one (.ptr 2 0))], G, [some (.box 81 [iC kind, iC key, iC field, iC n, sC text]), some (.box 27 [iC 0, sC ⟨#[]⟩, sC ⟨#[]⟩, sC ⟨#[]⟩, iC 0]), some (.box 27 [iC (1 + 21), sC (someS key), sC ⟨#[]⟩, sC ⟨#[]⟩, iC 0])]⟩ ?_ ?_
  repeat' (first | (with_reducible first | refine Cn (fun h => ?_) fun h => ?_ | refine And.intro ?_ ?_ | refine wR ?_ | exact wr _ _ | refine wa ?_ | apply awp_join | refine q1 (by exact picked_c _ _ (by assumption) (by simp)) ?_ | refine q1d (by exact picked_c _ _ (by assumption) (by simp)) ?_ | refine q1 (by exact some_c _ (by assumption)) ?_ | refine q1d (by exact some_c _ (by assumption)) ?_ | refine q1 (by exact picked_c _ _ (by assumption) (by simp)) ?_ | refine q1d (by exact picked_c _ _ (by assumption) (by simp)) ?_ | refine q1 (by exact some_c _ (by assumption)) ?_ | refine q1d (by exact some_c _ (by assumption)) ?_ | refine q1 (by exact cut_c _ _ (by simp)) ?_ | refine q1d (by exact cut_c _ _ (by simp)) ?_) | (with_reducible refine CallZ.z ?_) | simp -dsimp [go_sem, hk, e, cmd6])
  all_goals simp_all [cmdOf, cmdText, coeCs, coeC]
theorem command_c (kind key field n : Int) (text : ByteArray) (h1 : i64 kind) (h2 : i64 key) (h3 : i64 field) (h4 : i64 n) : PCall Tryz.prog G 74 [.agg [iC kind, iC key, iC field, iC n, sC text]] (.agg (cmdOf (1 + pk kind 22) key field n text)) := by
  have hr := pk_range (n := kind) (m := 22) (by omega)
  have hk : pk kind 22 = 0 ∨ pk kind 22 = 1 ∨ pk kind 22 = 2 ∨ pk kind 22 = 3 ∨ pk kind 22 = 4 ∨ pk kind 22 = 5 ∨ pk kind 22 = 6 ∨ pk kind 22 = 7 ∨ pk kind 22 = 8 ∨ pk kind 22 = 9 ∨ pk kind 22 = 10 ∨ pk kind 22 = 11 ∨ pk kind 22 = 12 ∨ pk kind 22 = 13 ∨ pk kind 22 = 14 ∨ pk kind 22 = 15 ∨ pk kind 22 = 16 ∨ pk kind 22 = 17 ∨ pk kind 22 = 18 ∨ pk kind 22 = 19 ∨ pk kind 22 = 20 ∨ pk kind 22 = 21 := by omega
  rcases hk with hk | hk | hk | hk | hk | hk | hk | hk | hk | hk | hk | hk | hk | hk | hk | hk | hk | hk | hk | hk | hk | hk
  · exact command0_c kind key field n text h1 h2 h3 h4 hk
  · exact command1_c kind key field n text h1 h2 h3 h4 hk
  · exact command2_c kind key field n text h1 h2 h3 h4 hk
  · exact command3_c kind key field n text h1 h2 h3 h4 hk
  · exact command4_c kind key field n text h1 h2 h3 h4 hk
  · exact command5_c kind key field n text h1 h2 h3 h4 hk
  · exact command6_c kind key field n text h1 h2 h3 h4 hk
  · exact command7_c kind key field n text h1 h2 h3 h4 hk
  · exact command8_c kind key field n text h1 h2 h3 h4 hk
  · exact command9_c kind key field n text h1 h2 h3 h4 hk
  · exact command10_c kind key field n text h1 h2 h3 h4 hk
  · exact command11_c kind key field n text h1 h2 h3 h4 hk
  · exact command12_c kind key field n text h1 h2 h3 h4 hk
  · exact command13_c kind key field n text h1 h2 h3 h4 hk
  · exact command14_c kind key field n text h1 h2 h3 h4 hk
  · exact command15_c kind key field n text h1 h2 h3 h4 hk
  · exact command16_c kind key field n text h1 h2 h3 h4 hk
  · exact command17_c kind key field n text h1 h2 h3 h4 hk
  · exact command18_c kind key field n text h1 h2 h3 h4 hk
  · exact command19_c kind key field n text h1 h2 h3 h4 hk
  · exact command20_c kind key field n text h1 h2 h3 h4 hk
  · exact command21_c kind key field n text h1 h2 h3 h4 hk
end Go.Proofs.YtkkleopmambcnaaGreatDoor
set_option linter.unusedVariables false
set_option linter.unusedSimpArgs false
set_option maxRecDepth 100000
set_option maxHeartbeats 8000000
namespace Go.Proofs.YtkkleopmambcnaaGreatDoor
open Go Go.RowKit Go.Proofs.AE
variable {G : Nat → AV}
def checkCall (client seq k : Int) (key field text : ByteArray) (n : Int) : Int :=
  if decide (client = 0) then (if (seq == 0 && (k == 0 && (decide (key = ⟨#[]⟩) && (decide (field = ⟨#[]⟩) && (decide (text = ⟨#[]⟩) && n == 0))))) then 0 else 8)
  else if okNumber client then (if okNumber seq then checkCommand k key field text n else 2) else 2
theorem checkCall_c (client seq k : Int) (key field text : ByteArray) (n : Int) : PCall Tryz.prog G 46 [.agg [iC client, iC seq, iC k, sC key, sC field, sC text, iC n]] (iV (checkCall client seq k key field text n)) := by
  refine pcallc mixed Tryz.func46 ac_client_CheckCall ?_
  repeat' (first | (with_reducible first | refine Cn (fun h => ?_) fun h => ?_ | refine And.intro ?_ ?_ | refine wR ?_ | exact wr _ _ | refine wa ?_ | apply awp_join | refine q (number_c _) ?_ | refine qd (number_c _) ?_ | refine qz (number_c _) ?_ | refine q (check_c _ _ _ _ _) ?_ | refine qd (check_c _ _ _ _ _) ?_ | refine qz (check_c _ _ _ _ _) ?_) | (with_reducible refine CallZ.z ?_) | simp -dsimp [go_sem])
  all_goals simp_all [checkCall]
  all_goals (intros; simp_all)
theorem cmd_ok (kind key field n : Int) (text : ByteArray) (h4 : i64 n) : ∀ k a b c m, cmdOf (1 + pk kind 22) key field n text = [iC k, sC a, sC b, sC c, iC m] → checkCommand k a b c m = 0 := by
  intro k a b c m h
  have hr := pk_range (n := kind) (m := 22) (by omega)
  have h60 := pk_range (n := n) (m := 60) (by omega)
  have h12 := pk_range (n := n) (m := 12) (by omega)
  have hs : ∀ x, okField (someS x) = true := fun x => rfl
  have hst : ∀ x, okText (someS x) = true := fun x => rfl
  have hc : okText (cmdText n text) = true := by
    unfold cmdText
    split
    · rfl
    · have := cutS_size text (n := 6) (by omega)
      simp only [okText, decide_eq_true_eq]
      omega
  have he : okText ⟨#[]⟩ = true := rfl
  have hn : okCount (n.tmod 1073741824) = true := by
    have h1 := Int.tmod_lt_of_pos n (b := 1073741824) (by omega)
    have h2 : -1073741824 < n.tmod 1073741824 := by
      rcases Int.le_total 0 n with h | h
      · have := Int.tmod_nonneg 1073741824 h; omega
      · have h3 := Int.tmod_lt_of_pos (-n) (b := 1073741824) (by omega)
        rw [Int.neg_tmod] at h3
        omega
    simp only [okCount, Bool.and_eq_true, decide_eq_true_eq]
    omega
  have hn0 : okCount 0 = true := rfl
  have hn1 : okCount (pk n 60) = true := by simp only [okCount, Bool.and_eq_true, decide_eq_true_eq]; omega
  have hn2 : okCount (pk n 12 - 6) = true := by simp only [okCount, Bool.and_eq_true, decide_eq_true_eq]; omega
  simp only [cmdOf, List.cons.injEq, C.v.injEq, V.lit.injEq, Value.int.injEq, Value.string.injEq, and_true, true_and] at h
  obtain ⟨rfl, rfl, rfl, rfl, rfl⟩ := h
  have hk : pk kind 22 = 0 ∨ pk kind 22 = 1 ∨ pk kind 22 = 2 ∨ pk kind 22 = 3 ∨ pk kind 22 = 4 ∨ pk kind 22 = 5 ∨ pk kind 22 = 6 ∨ pk kind 22 = 7 ∨ pk kind 22 = 8 ∨ pk kind 22 = 9 ∨ pk kind 22 = 10 ∨ pk kind 22 = 11 ∨ pk kind 22 = 12 ∨ pk kind 22 = 13 ∨ pk kind 22 = 14 ∨ pk kind 22 = 15 ∨ pk kind 22 = 16 ∨ pk kind 22 = 17 ∨ pk kind 22 = 18 ∨ pk kind 22 = 19 ∨ pk kind 22 = 20 ∨ pk kind 22 = 21 := by omega
  rcases hk with hk | hk | hk | hk | hk | hk | hk | hk | hk | hk | hk | hk | hk | hk | hk | hk | hk | hk | hk | hk | hk | hk
  all_goals simp [hk, checkCommand, formOk, hs, hst, hc, he, hn, hn0, hn1, hn2]
theorem nodup_le {α : Type} [DecidableEq α] : ∀ (l m : List α), l.Pairwise (· ≠ ·) → (∀ x ∈ l, x ∈ m) → l.length ≤ m.length
  | [], m, _, _ => Nat.zero_le _
  | x :: l, m, h, hm => by
    obtain ⟨h1, h2⟩ := List.pairwise_cons.1 h
    have hx := hm x (List.mem_cons_self ..)
    have := nodup_le l (m.erase x) h2 fun y hy => (List.mem_erase_of_ne fun e => h1 y hy e.symm).2 (hm y (List.mem_cons_of_mem _ hy))
    have hl := List.length_erase_of_mem hx
    have hp := List.length_pos_of_mem hx
    simp only [List.length_cons]; omega
def nine : List ByteArray := (List.range 9).map fun i => ⟨#[UInt8.ofNat (97 + i)]⟩
end Go.Proofs.YtkkleopmambcnaaGreatDoor
set_option linter.unusedVariables false
set_option linter.unusedSimpArgs false
set_option maxRecDepth 100000
set_option maxHeartbeats 8000000
namespace Go.Proofs.YtkkleopmambcnaaGreatDoor
open Go Go.RowKit Go.Proofs.AE
theorem wf_i64 {n : Int} (h : (Lit.int .i64 n).wf = true) : i64 n := by
  rw [Lit.wf] at h
  simp only [Bool.and_eq_true, decide_eq_true_eq] at h
  exact h
theorem raw_wt {vs : List V} (h : WT Tryz.prog 3 81 vs) : ∃ (kind key field n : Int) (text : ByteArray), vs = [.lit (.int .i64 kind), .lit (.int .i64 key), .lit (.int .i64 field), .lit (.int .i64 n), .lit (.string text)] ∧
    i64 kind ∧ i64 key ∧ i64 field ∧ i64 n ∧ text.size ≤ maxLen := by
  simp [WT, ti81, ti3, ti9] at h
  obtain ⟨hl, ⟨a, ha, wa⟩, ⟨b, hb, wb⟩, ⟨c, hc, wc⟩, ⟨d, hd, wd⟩, ⟨s, he, we⟩⟩ := h
  match vs, hl with
  | [v0, v1, v2, v3, v4], _ =>
    simp at ha hb hc hd he
    subst ha hb hc hd he
    exact ⟨a, b, c, d, s, rfl, wf_i64 wa, wf_i64 wb, wf_i64 wc, wf_i64 wd, we⟩
structure Deed where
  client : Int
  off : Int
  wait : Int
  kind : Int
  key : Int
  field : Int
  n : Int
  text : ByteArray
abbrev iL (n : Int) : V := .lit (.int .i64 n)
abbrev sL (s : ByteArray) : V := .lit (.string s)
def Deed.row (d : Deed) : List V := [iL d.client, iL d.off, iL d.wait, iL d.kind, iL d.key, iL d.field, iL d.n, sL d.text]
structure Deed.Ok (d : Deed) : Prop where
  client : i64 d.client
  off : i64 d.off
  wait : i64 d.wait
  kind : i64 d.kind
  key : i64 d.key
  field : i64 d.field
  n : i64 d.n
end Go.Proofs.YtkkleopmambcnaaGreatDoor
set_option linter.unusedVariables false
set_option linter.unusedSimpArgs false
set_option maxRecDepth 100000
set_option maxHeartbeats 8000000
namespace Go.Proofs.YtkkleopmambcnaaGreatDoor
open Go Go.RowKit Go.Proofs.AE
variable {G : Nat → AV}
structure Raw where
  kind : Int
  key : Int
  field : Int
  n : Int
  text : ByteArray
def Raw.row (r : Raw) : List V := [.lit (.int .i64 r.kind), .lit (.int .i64 r.key), .lit (.int .i64 r.field), .lit (.int .i64 r.n), .lit (.string r.text)]
structure Raw.Ok (r : Raw) : Prop where
  kind : i64 r.kind
  key : i64 r.key
  field : i64 r.field
  n : i64 r.n
def cmdK (k : Int) (r : Raw) : Cmd :=
  ⟨k, if k = 22 then ⟨#[]⟩ else someS r.key, if k = 4 ∨ k = 5 ∨ k = 6 then someS r.field else ⟨#[]⟩,
   if k = 1 ∨ k = 4 ∨ k = 7 ∨ k = 8 ∨ k = 11 ∨ k = 12 ∨ k = 13 ∨ k = 14 ∨ k = 15 ∨ k = 16 then cmdText r.n r.text else ⟨#[]⟩,
   if k = 3 then r.n.tmod 1073741824 else if k = 20 then pk r.n 60 else if k = 14 then pk r.n 12 - 6 else 0⟩
def cmdR (r : Raw) : Cmd := cmdK (1 + pk r.kind 22) r
theorem cmdR_ok {r : Raw} (h : r.Ok) : checkC (cmdR r) = 0 := cmd_ok r.kind r.key r.field r.n r.text h.n _ _ _ _ _ rfl
theorem commandR_c (r : Raw) (h : r.Ok) : PCall Tryz.prog G 74 [.agg [iC r.kind, iC r.key, iC r.field, iC r.n, sC r.text]] (.agg (cmdR r).c) := command_c r.kind r.key r.field r.n r.text h.kind h.key h.field h.n
end Go.Proofs.YtkkleopmambcnaaGreatDoor
set_option linter.unusedVariables false
set_option linter.unusedSimpArgs false
set_option maxRecDepth 100000
set_option maxHeartbeats 8000000
namespace Go.Proofs.YtkkleopmambcnaaGreatDoor
open Go Go.RowKit Go.Proofs.AE
variable {G : Nat → AV}
instance : DecidableEq Val := fun a b => decidable_of_iff (a.kind = b.kind ∧ a.text = b.text ∧ a.count = b.count ∧ a.pairs = b.pairs ∧ a.items = b.items ∧ a.scores = b.scores) (by
  cases a; cases b; simp)
end Go.Proofs.YtkkleopmambcnaaGreatDoor
set_option linter.unusedVariables false
set_option linter.unusedSimpArgs false
set_option maxRecDepth 100000
set_option maxHeartbeats 8000000
namespace Go.Proofs.YtkkleopmambcnaaGreatDoor
open Go Go.RowKit Go.Proofs.AE
variable {G : Nat → AV}
structure Ent where
  key : ByteArray
  val : Val
  till : Int
structure Sto where
  now : Int
  ents : List Ent
def Val.v (v : Val) : List V := [.lit (.int .i64 v.kind), .lit (.string v.text), .lit (.int .i64 v.count), .sl (pR v.pairs), .sl (strRows v.items), .sl (sR v.scores)]
def Ent.row (e : Ent) : List V := [.lit (.string e.key), .lit (.int .i64 e.val.kind), .lit (.string e.val.text), .lit (.int .i64 e.val.count), .sl (pR e.val.pairs), .sl (strRows e.val.items), .sl (sR e.val.scores), .lit (.int .i64 e.till)]
def Ent.c (e : Ent) : List C := [sC e.key, iC e.val.kind, sC e.val.text, iC e.val.count, .v (.sl (pR e.val.pairs)), .v (.sl (strRows e.val.items)), .v (.sl (sR e.val.scores)), iC e.till]
abbrev eR (l : List Ent) : List (List V) := l.map Ent.row
def Sto.c (s : Sto) : List C := [iC s.now, .v (.sl (eR s.ents))]
def Sto.Small (s : Sto) : Prop := s.ents.length ≤ 1000 ∧ ∀ e ∈ s.ents, e.val.Small
def entBad (now : Int) (e : Ent) : Bool := !okField e.key || checkV e.val != 0 || (e.till != 0 && (decide (e.till ≤ now) || decide (1073741824 < e.till)))
def bE (a b : Ent) : Int := cmpB a.key b.key
def checkS (s : Sto) : Int :=
  if s.now < 0 ∨ 1073741824 < s.now ∨ 12 < s.ents.length then 13
  else if s.ents.any (entBad s.now) = true then 13
  else if rising bE s.ents = true then 0 else 13
def goneE (now : Int) (e : Ent) : Bool := e.till != 0 && decide (e.till ≤ now)
def findE (l : List Ent) (k : ByteArray) : Nat := plc (fun e => decide (cmpB e.key k < 0)) l
def inE (l : List Ent) (k : ByteArray) : Bool := match l[findE l k]? with | some e => cmpB e.key k == 0 | none => false
def setE (l : List Ent) (c : Cmd) (v : Val) : List Ent :=
  match (if inE l c.key then l[findE l c.key]? else none) with
  | some e => l.set (findE l c.key) ⟨e.key, v, if c.kind = 1 then 0 else e.till⟩
  | none => insAt l (findE l c.key) ⟨c.key, v, 0⟩
def timedE (now : Int) (l : List Ent) (c : Cmd) : List Ent × Rep :=
  match (if inE l c.key then l[findE l c.key]? else none) with
  | none => (l, failR 5)
  | some e =>
    if c.kind = 21 then (l, toldR (if e.till - now < 0 then 0 else e.till - now))
    else if c.n < 1 ∨ 1073741824 - now < c.n then (l, failR 2)
    else (l.set (findE l c.key) ⟨e.key, e.val, now + c.n⟩, toldR 0)
def oldV (l : List Ent) (c : Cmd) : Val := match (if inE l c.key then l[findE l c.key]? else none) with | some e => e.val | none => zeroV
def valE (l : List Ent) (c : Cmd) : List Ent × Rep :=
  if (DoV (oldV l c) c).2.1.code ≠ 0 then (l, (DoV (oldV l c) c).2.1)
  else if (DoV (oldV l c) c).1.kind = 0 ∧ inE l c.key = true then (delAt l (findE l c.key), (DoV (oldV l c) c).2.1)
  else if inE l c.key = false ∧ l.length = 12 then (l, failR 6)
  else if (DoV (oldV l c) c).1.kind ≠ 0 then (setE l c (DoV (oldV l c) c).1, (DoV (oldV l c) c).2.1)
  else (l, (DoV (oldV l c) c).2.1)
def doE (now : Int) (l : List Ent) (c : Cmd) : List Ent × Rep :=
  if c.kind = 22 then (l, ⟨0, ⟨#[]⟩, 0, l.map Ent.key⟩)
  else if c.kind = 19 then (if inE l c.key then (delAt l (findE l c.key), toldR 1) else (l, toldR 0))
  else if c.kind = 20 ∨ c.kind = 21 then timedE now l c
  else valE l c
def zeroS : Sto := ⟨0, []⟩
def maxI (a b : Int) : Int := if b < a then a else b
def ApplyS (s : Sto) (time : Int) (c : Cmd) : Sto × Rep × Int :=
  if checkS s ≠ 0 then (zeroS, toldR 0, checkS s)
  else if time < 0 ∨ 1073741824 < time then (zeroS, toldR 0, 2)
  else if checkC c ≠ 0 then (zeroS, toldR 0, checkC c)
  else (⟨maxI s.now time, (doE (maxI s.now time) (s.ents.filter fun e => !goneE (maxI s.now time) e) c).1⟩, (doE (maxI s.now time) (s.ents.filter fun e => !goneE (maxI s.now time) e) c).2, 0)
structure OkE (now : Int) (e : Ent) : Prop where
  key : okField e.key = true
  val : OkV e.val
  till : e.till = 0 ∨ now < e.till ∧ e.till ≤ 1073741824
def Rise (l : List Ent) : Prop := l.Pairwise (fun a b => cmpB a.key b.key < 0)
structure OkS (s : Sto) : Prop where
  now : 0 ≤ s.now ∧ s.now ≤ 1073741824
  len : s.ents.length ≤ 12
  all : ∀ e ∈ s.ents, OkE s.now e
  rise : Rise s.ents
theorem OkS.small {s : Sto} (h : OkS s) : s.Small := ⟨by have := h.len; omega, fun e he => (h.all e he).val.small⟩
def getE (l : List Ent) (k : ByteArray) : Option Ent := l.find? fun e => decide (e.key = k)
theorem getE_none {l : List Ent} {k : ByteArray} : getE l k = none ↔ ∀ e ∈ l, e.key ≠ k := by
  unfold getE
  rw [List.find?_eq_none]
  simp
theorem key_ne {a b : ByteArray} (h : cmpB a b < 0) : a ≠ b := fun e => by
  subst e
  rw [cmpB_self] at h
  omega
theorem getE_append (a b : List Ent) (k : ByteArray) : getE (a ++ b) k = (getE a k).or (getE b k) := List.find?_append
theorem split_E {l : List Ent} {i : Nat} {x : Ent} (h : l[i]? = some x) : l = l.take i ++ x :: l.drop (i + 1) := by
  have hl := (List.getElem?_eq_some_iff.1 h).1
  have hx := (List.getElem?_eq_some_iff.1 h).2
  rw [← hx, ← List.drop_eq_getElem_cons hl, List.take_append_drop]
theorem rise_split {a b : List Ent} {x : Ent} (h : Rise (a ++ x :: b)) : getE a x.key = none ∧ getE b x.key = none := by
  obtain ⟨h1, h2, h3⟩ := List.pairwise_append.1 h
  exact ⟨getE_none.2 fun e he => key_ne (h3 e he _ (List.mem_cons_self ..)), getE_none.2 fun e he => fun e2 => key_ne ((List.pairwise_cons.1 h2).1 e he) e2.symm⟩
theorem getE_at {l : List Ent} (hr : Rise l) {i : Nat} {x : Ent} (hi : l[i]? = some x) : getE l x.key = some x := by
  have hs := split_E hi
  rw [hs] at hr ⊢
  obtain ⟨h1, h2⟩ := rise_split hr
  rw [getE_append, h1]
  simp [getE]
theorem getE_mem {l : List Ent} {k : ByteArray} {e : Ent} (h : getE l k = some e) : e ∈ l ∧ e.key = k := by
  unfold getE at h
  exact ⟨List.mem_of_find?_eq_some h, by simpa using List.find?_some h⟩
theorem mem_getE {l : List Ent} (hr : Rise l) {e : Ent} (h : e ∈ l) : getE l e.key = some e := by
  obtain ⟨i, hi, rfl⟩ := List.getElem_of_mem h
  exact getE_at hr (List.getElem?_eq_getElem hi)
structure Did (l : List Ent) (k : ByteArray) (x : Option Ent) (l' : List Ent) : Prop where
  rise : Rise l'
  here : getE l' k = x
  other : ∀ k', k' ≠ k → getE l' k' = getE l k'
  len : l'.length = if x.isSome = true then (if (getE l k).isSome = true then l.length else l.length + 1) else (if (getE l k).isSome = true then l.length - 1 else l.length)
theorem Did.none {l : List Ent} (hr : Rise l) (k : ByteArray) : Did l k (getE l k) l := ⟨hr, rfl, fun _ _ => rfl, by split <;> rfl⟩
theorem Did.all {l l' : List Ent} {k : ByteArray} {x : Option Ent} (h : Did l k x l') (hr : Rise l) {p : Ent → Prop} (hp : ∀ e ∈ l, p e) (hx : ∀ e, x = some e → p e) : ∀ e ∈ l', p e := by
  intro e he
  have hg := mem_getE h.rise he
  by_cases hk : e.key = k
  · rw [hk, h.here] at hg; exact hx e hg
  · rw [h.other _ hk] at hg; exact hp e (getE_mem hg).1
structure Stp where
  raw : Raw
  wait : Int
structure Stp.Ok (x : Stp) : Prop where
  raw : x.raw.Ok
  wait : i64 x.wait
def Stp.row (x : Stp) : List V := [.lit (.int .i64 x.raw.kind), .lit (.int .i64 x.raw.key), .lit (.int .i64 x.raw.field), .lit (.int .i64 x.raw.n), .lit (.string x.raw.text), .lit (.int .i64 x.wait)]
def Stp.c (x : Stp) : List C := [iC x.raw.kind, iC x.raw.key, iC x.raw.field, iC x.raw.n, sC x.raw.text, iC x.wait]
def Few (l : List Ent) : Prop := ∀ e ∈ l, e.key ∈ nine
theorem few_len {l : List Ent} (hr : Rise l) (h : Few l) : l.length ≤ 9 := by
  have := nodup_le (l.map Ent.key) nine (List.pairwise_map.2 (hr.imp fun h => key_ne h)) fun x hx => by
    obtain ⟨p, hp, rfl⟩ := List.mem_map.1 hx
    exact h p hp
  rw [List.length_map] at this
  exact this
structure OkT (s : Sto) : Prop where
  ok : OkS s
  few : Few s.ents
theorem OkT.len {s : Sto} (h : OkT s) : s.ents.length ≤ 9 := few_len h.ok.rise h.few
end Go.Proofs.YtkkleopmambcnaaGreatDoor
set_option linter.unusedVariables false
set_option linter.unusedSimpArgs false
set_option maxRecDepth 100000
set_option maxHeartbeats 8000000
namespace Go.Proofs.YtkkleopmambcnaaGreatDoor
open Go Go.RowKit Go.Proofs.AE
variable {G : Nat → AV}
def keysC : Cmd := ⟨22, ⟨#[]⟩, ⟨#[]⟩, ⟨#[]⟩, 0⟩
end Go.Proofs.YtkkleopmambcnaaGreatDoor
set_option linter.unusedVariables false
set_option linter.unusedSimpArgs false
set_option maxRecDepth 100000
set_option maxHeartbeats 8000000
namespace Go.Proofs.YtkkleopmambcnaaGreatDoor
open Go Go.RowKit Go.Proofs.AE
variable {G : Nat → AV}
structure Cli where
  id : Int
  seq : Int
  time : Int
  reply : Rep
structure Mach where
  sto : Sto
  next : Int
  clis : List Cli
structure Cal where
  client : Int
  seq : Int
  cmd : Cmd
def Cli.c (x : Cli) : List C := [iC x.id, iC x.seq, iC x.time, iC x.reply.code, sC x.reply.text, iC x.reply.n, .v (.sl (strRows x.reply.list))]
def Cli.row (x : Cli) : List V := [.lit (.int .i64 x.id), .lit (.int .i64 x.seq), .lit (.int .i64 x.time), .lit (.int .i64 x.reply.code), .lit (.string x.reply.text), .lit (.int .i64 x.reply.n), .sl (strRows x.reply.list)]
abbrev clR (l : List Cli) : List (List V) := l.map Cli.row
def Mach.c (m : Mach) : List C := [iC m.sto.now, .v (.sl (eR m.sto.ents)), iC m.next, .v (.sl (clR m.clis))]
def Cal.c (c : Cal) : List C := [iC c.client, iC c.seq, iC c.cmd.kind, sC c.cmd.key, sC c.cmd.field, sC c.cmd.text, iC c.cmd.n]
def checkR (r : Rep) : Int := checkReply r.code r.text r.n r.list
def checkCl (c : Cal) : Int := checkCall c.client c.seq c.cmd.kind c.cmd.key c.cmd.field c.cmd.text c.cmd.n
def badC (next now : Int) (x : Cli) : Bool := decide (x.id < 1) || decide (next ≤ x.id) || decide (x.seq < 0) || decide (1048576 < x.seq) || decide (x.time < 0) || decide (now < x.time) || (checkR x.reply != 0)
def cI (a b : Cli) : Int := a.id - b.id
def checkM (m : Mach) : Int :=
  if checkS m.sto ≠ 0 ∨ m.next < 1 ∨ 1048577 < m.next ∨ 4 < m.clis.length then 13
  else if m.clis.any (badC m.next m.sto.now) = true then 13
  else if rising cI m.clis = true then 0 else 13
def oldest : List Cli → Nat → Nat → List Cli → Nat
  | _, old, _, [] => old
  | all, old, i, x :: r => oldest all (match all[old]? with | some y => if x.time < y.time then i else old | none => old) (i + 1) r
def openM (m : Mach) : Mach × Rep :=
  if 1048576 < m.next then (m, failR 6)
  else (⟨m.sto, m.next + 1, (if m.clis.length = 4 then delAt m.clis (oldest m.clis 0 0 m.clis) else m.clis) ++ [⟨m.next, 0, m.sto.now, toldR 0⟩]⟩, toldR m.next)
def findC (l : List Cli) (id : Int) : Int := firstI (fun x => x.id == id) 0 l
def zeroM : Mach := ⟨zeroS, 0, []⟩
def callM (m : Mach) (time : Int) (c : Cal) : Mach × Rep :=
  if c.client = 0 then openM m
  else if findC m.clis c.client < 0 then (m, failR 11)
  else match m.clis[(findC m.clis c.client).toNat]? with
    | none => (m, failR 11)
    | some x =>
      if c.seq = x.seq then (m, x.reply)
      else if c.seq ≠ x.seq + 1 then (m, failR 10)
      else (⟨(ApplyS m.sto time c.cmd).1, m.next, m.clis.set (findC m.clis c.client).toNat ⟨x.id, c.seq, (ApplyS m.sto time c.cmd).1.now, (ApplyS m.sto time c.cmd).2.1⟩⟩, (ApplyS m.sto time c.cmd).2.1)
def DoM (m : Mach) (time : Int) (c : Cal) : Mach × Rep × Int :=
  if checkM m ≠ 0 then (zeroM, toldR 0, checkM m)
  else if time < 0 ∨ 1073741824 < time then (zeroM, toldR 0, 2)
  else if checkCl c ≠ 0 then (zeroM, toldR 0, checkCl c)
  else ((callM ⟨(ApplyS m.sto time keysC).1, m.next, m.clis⟩ time c).1, (callM ⟨(ApplyS m.sto time keysC).1, m.next, m.clis⟩ time c).2, 0)
structure OkC (next now : Int) (x : Cli) : Prop where
  id : 1 ≤ x.id ∧ x.id < next
  seq : 0 ≤ x.seq ∧ x.seq ≤ 1048576
  time : 0 ≤ x.time ∧ x.time ≤ now
  reply : checkR x.reply = 0
def RiseC (l : List Cli) : Prop := l.Pairwise (fun a b => a.id < b.id)
structure OkM (m : Mach) : Prop where
  sto : OkS m.sto
  next : 1 ≤ m.next ∧ m.next ≤ 1048577
  len : m.clis.length ≤ 4
  all : ∀ x ∈ m.clis, OkC m.next m.sto.now x
  rise : RiseC m.clis
theorem RiseC.sub {l l' : List Cli} (h : RiseC l) (hs : l'.Sublist l) : RiseC l' := List.Pairwise.sublist hs h
def newM : Mach := ⟨zeroS, 1, []⟩
end Go.Proofs.YtkkleopmambcnaaGreatDoor
set_option linter.unusedVariables false
set_option linter.unusedSimpArgs false
set_option maxRecDepth 100000
set_option maxHeartbeats 8000000
namespace Go.Proofs.YtkkleopmambcnaaGreatDoor
open Go Go.RowKit Go.Proofs.AE
variable {G : Nat → AV}
def bR (l : List UInt8) : List (List V) := l.map fun b => [.lit (.int .u8 b.toNat)]
def byteAt' (u s : Nat) : UInt8 := UInt8.ofNat (u / 2 ^ s)
def numU (n : Int) : Nat := (n + 4611686018427387904).toNat
def numB (n : Int) : List UInt8 := [byteAt' (numU n) 56, byteAt' (numU n) 48, byteAt' (numU n) 40, byteAt' (numU n) 32, byteAt' (numU n) 24, byteAt' (numU n) 16, byteAt' (numU n) 8, byteAt' (numU n) 0]
def smallB (n : Int) : UInt8 := UInt8.ofNat (n % 256).toNat
def textB (s : ByteArray) : List UInt8 := smallB s.size :: s.data.toList
def inNum (n : Int) : Prop := -4611686018427387904 ≤ n ∧ n < 4611686018427387904
end Go.Proofs.YtkkleopmambcnaaGreatDoor
set_option linter.unusedVariables false
set_option linter.unusedSimpArgs false
set_option maxRecDepth 100000
set_option maxHeartbeats 8000000
namespace Go.Proofs.YtkkleopmambcnaaGreatDoor
open Go Go.RowKit Go.Proofs.AE
structure Rd where
  rest : List UInt8
  short : Bool
def takeR (r : Rd) (n : Nat) : List UInt8 × Rd := if r.short = true ∨ r.rest.length < n then ([], ⟨r.rest, true⟩) else (r.rest.take n, ⟨r.rest.drop n, false⟩)
def uOf (l : List UInt8) : Nat := l.foldl (fun u c => (u * 256 + c.toNat) % 18446744073709551616) 0
def numOf (l : List UInt8) : Int := IntKind.i64.wrap ((uOf l : Int) - 4611686018427387904)
def numR (r : Rd) : Int × Rd := (numOf (takeR r 8).1, (takeR r 8).2)
def smallR (r : Rd) : Nat × Rd := ((match (takeR r 1).1 with | c :: _ => c.toNat | [] => 0), (takeR r 1).2)
def txtR (r : Rd) : ByteArray × Rd := (⟨(takeR (smallR r).2 (smallR r).1).1.toArray⟩, (takeR (smallR r).2 (smallR r).1).2)
theorem takeR_app (b rest : List UInt8) {n : Nat} (h : b.length = n) : takeR ⟨b ++ rest, false⟩ n = (b, ⟨rest, false⟩) := by
  subst h
  unfold takeR
  rw [if_neg (by simp), List.take_left' rfl, List.drop_left' rfl]
theorem uOf_numB {n : Int} (h : inNum n) : uOf (numB n) = numU n := by
  have hu : numU n < 18446744073709551616 := by unfold inNum at h; unfold numU; omega
  unfold uOf numB byteAt'
  generalize numU n = u at hu
  simp only [List.foldl_cons, List.foldl_nil, UInt8.toNat_ofNat']
  omega
theorem numOf_numB {n : Int} (h : inNum n) : numOf (numB n) = n := by
  unfold numOf
  rw [uOf_numB h]
  unfold inNum at h
  unfold numU
  rw [IntWalk.i64_in _ (by omega)]
  omega
theorem numR_app {n : Int} (h : inNum n) (rest : List UInt8) : numR ⟨numB n ++ rest, false⟩ = (n, ⟨rest, false⟩) := by
  unfold numR
  rw [takeR_app (numB n) rest (n := 8) rfl, numOf_numB h]
theorem smallR_app (c : UInt8) (rest : List UInt8) : smallR ⟨c :: rest, false⟩ = (c.toNat, ⟨rest, false⟩) := by
  have := takeR_app [c] rest (n := 1) rfl
  unfold smallR
  rw [show c :: rest = [c] ++ rest from rfl, this]
theorem smallB_toNat {n : Int} (h : 0 ≤ n) (h2 : n < 256) : (smallB n).toNat = n.toNat := by
  unfold smallB
  rw [UInt8.toNat_ofNat']; omega
theorem txtR_app {t : ByteArray} (h : t.size ≤ 255) (rest : List UInt8) : txtR ⟨textB t ++ rest, false⟩ = (t, ⟨rest, false⟩) := by
  have h1 : smallR ⟨textB t ++ rest, false⟩ = (t.size, ⟨t.data.toList ++ rest, false⟩) := by
    unfold textB
    rw [List.cons_append, smallR_app, smallB_toNat (by omega) (by omega)]
    simp
  unfold txtR
  rw [h1, takeR_app _ _ (by rw [Array.length_toList]; rfl)]
theorem uOf_lt (l : List UInt8) : uOf l < 18446744073709551616 := by
  unfold uOf
  rcases l.eq_nil_or_concat with rfl | ⟨a, b, rfl⟩
  · simp
  · rw [List.concat_eq_append, List.foldl_append]
    simp only [List.foldl_cons, List.foldl_nil]
    omega
theorem takeR_short (l : List UInt8) (n : Nat) : (takeR ⟨l, true⟩ n).2.short = true := by simp [takeR]
theorem takeR_ext {l1 : List UInt8} (l2 : List UInt8) {n : Nat} (h : (takeR ⟨l1, false⟩ n).2.short = false) : takeR ⟨l1 ++ l2, false⟩ n = ((takeR ⟨l1, false⟩ n).1, ⟨(takeR ⟨l1, false⟩ n).2.rest ++ l2, false⟩) := by
  unfold takeR at h ⊢
  split at h
  · cases h
  · rename_i h1
    have h2 : ¬ l1.length < n := by simpa using h1
    rw [if_neg (by simp; omega), if_neg h1]
    simp only
    rw [List.take_append_of_le_length (by omega), List.drop_append_of_le_length (by omega)]
structure Reads {α : Type} (f : Rd → α × Rd) : Prop where
  stuck : ∀ l, (f ⟨l, true⟩).2.short = true
  ext : ∀ l1 l2, (f ⟨l1, false⟩).2.short = false → f ⟨l1 ++ l2, false⟩ = ((f ⟨l1, false⟩).1, ⟨(f ⟨l1, false⟩).2.rest ++ l2, false⟩)
theorem Reads.take (n : Nat) : Reads (fun r => takeR r n) := ⟨fun l => takeR_short l n, fun l1 l2 h => takeR_ext l2 h⟩
theorem Reads.map {α β : Type} {f : Rd → α × Rd} (h : Reads f) (g : α → β) : Reads (fun r => (g (f r).1, (f r).2)) :=
  ⟨fun l => h.stuck l, fun l1 l2 hs => by
    have := h.ext l1 l2 hs
    simp only [this]⟩
theorem Reads.bind {α β γ : Type} {f : Rd → α × Rd} {g : α → Rd → β × Rd} (c : α → β → γ) (h : Reads f) (hg : ∀ a, Reads (g a)) : Reads (fun r => (c (f r).1 (g (f r).1 (f r).2).1, (g (f r).1 (f r).2).2)) := by
  refine ⟨fun l => ?_, fun l1 l2 hs => ?_⟩
  · have h1 := h.stuck l
    generalize f ⟨l, true⟩ = p at *
    obtain ⟨a, r, s⟩ := p
    simp only at h1 ⊢
    subst h1
    exact (hg a).stuck r
  · simp only at hs ⊢
    have h1 : (f ⟨l1, false⟩).2.short = false := by
      cases hq : (f ⟨l1, false⟩).2.short with
      | false => rfl
      | true =>
        generalize f ⟨l1, false⟩ = p at *
        obtain ⟨a, r, s⟩ := p
        simp only at hq hs
        subst hq
        rw [(hg a).stuck r] at hs; cases hs
    rw [h.ext l1 l2 h1]
    generalize f ⟨l1, false⟩ = p at *
    obtain ⟨a, r, s⟩ := p
    simp only at h1 hs ⊢
    subst h1
    rw [(hg a).ext r l2 hs]
theorem reads_num : Reads numR := (Reads.take 8).map numOf
theorem reads_small : Reads smallR := (Reads.take 1).map fun l => match l with | c :: _ => c.toNat | [] => 0
theorem reads_text : Reads txtR := Reads.bind (f := smallR) (g := fun n r => takeR r n) (fun _ b => (⟨b.toArray⟩ : ByteArray)) reads_small fun n => Reads.take n
theorem numB_numOf {b : List UInt8} (hb : b.length = 8) (h : inNum (numOf b)) : numB (numOf b) = b := by
  have hu := uOf_lt b
  have e : ((uOf b : Nat) : Int) - 4611686018427387904 = numOf b := by
    unfold numOf at h ⊢
    unfold inNum at h
    have hw : IntKind.i64.wrap ((uOf b : Int) - 4611686018427387904) = (uOf b : Int) - 4611686018427387904 ∨ IntKind.i64.wrap ((uOf b : Int) - 4611686018427387904) = (uOf b : Int) - 4611686018427387904 - 18446744073709551616 := by
      by_cases hlt : (uOf b : Int) - 4611686018427387904 ≤ 9223372036854775807
      · left; exact IntWalk.i64_in _ (by omega)
      · right
        simp [IntKind.wrap, IntKind.bits, IntKind.signed]
        omega
    omega
  have hn : numU (numOf b) = uOf b := by unfold numU; omega
  unfold numB
  rw [hn]
  match b, hb with
  | [b7, b6, b5, b4, b3, b2, b1, b0], _ =>
    have l7 := b7.toNat_lt; have l6 := b6.toNat_lt; have l5 := b5.toNat_lt; have l4 := b4.toNat_lt
    have l3 := b3.toNat_lt; have l2 := b2.toNat_lt; have l1 := b1.toNat_lt; have l0 := b0.toNat_lt
    have hU : uOf [b7, b6, b5, b4, b3, b2, b1, b0] = ((((((b7.toNat * 256 + b6.toNat) * 256 + b5.toNat) * 256 + b4.toNat) * 256 + b3.toNat) * 256 + b2.toNat) * 256 + b1.toNat) * 256 + b0.toNat := by
      simp only [uOf, List.foldl_cons, List.foldl_nil]
      omega
    rw [hU]
    have key : ∀ (u s : Nat) (c : UInt8), u / 2 ^ s % 256 = c.toNat → byteAt' u s = c := by
      intro u s c h
      apply UInt8.toNat_inj.1
      unfold byteAt'
      rw [UInt8.toNat_ofNat']; omega
    rw [key _ 56 b7 (by omega), key _ 48 b6 (by omega), key _ 40 b5 (by omega), key _ 32 b4 (by omega), key _ 24 b3 (by omega), key _ 16 b2 (by omega), key _ 8 b1 (by omega), key _ 0 b0 (by omega)]
theorem take_eats {l : List UInt8} {n : Nat} (h : (takeR ⟨l, false⟩ n).2.short = false) : (takeR ⟨l, false⟩ n).1.length = n ∧ l = (takeR ⟨l, false⟩ n).1 ++ (takeR ⟨l, false⟩ n).2.rest := by
  unfold takeR at h ⊢
  split at h
  · cases h
  · rename_i h1
    rw [if_neg h1]
    have h2 : ¬ l.length < n := by simpa using h1
    exact ⟨by simp; omega, (List.take_append_drop n l).symm⟩
theorem num_eats {l : List UInt8} (h : (numR ⟨l, false⟩).2.short = false) (hn : inNum (numR ⟨l, false⟩).1) : l = numB (numR ⟨l, false⟩).1 ++ (numR ⟨l, false⟩).2.rest := by
  unfold numR at h hn ⊢
  obtain ⟨h1, h2⟩ := take_eats h
  rw [numB_numOf h1 hn]
  exact h2
theorem small_eats {l : List UInt8} (h : (smallR ⟨l, false⟩).2.short = false) : l = smallB (smallR ⟨l, false⟩).1 :: (smallR ⟨l, false⟩).2.rest ∧ (smallR ⟨l, false⟩).1 < 256 := by
  unfold smallR at h ⊢
  obtain ⟨h1, h2⟩ := take_eats h
  generalize takeR ⟨l, false⟩ 1 = p at *
  obtain ⟨b, r⟩ := p
  simp only at h1 h2 ⊢
  match b, h1 with
  | [c], _ =>
    have := c.toNat_lt
    simp only
    refine ⟨?_, this⟩
    have hc : smallB (c.toNat : Int) = c := by
      apply UInt8.toNat_inj.1
      rw [smallB_toNat (by omega) (by omega)]
      simp
    rw [hc]; exact h2
theorem text_eats {l : List UInt8} (h : (txtR ⟨l, false⟩).2.short = false) : l = textB (txtR ⟨l, false⟩).1 ++ (txtR ⟨l, false⟩).2.rest := by
  unfold txtR at h ⊢
  have hs : (smallR ⟨l, false⟩).2.short = false := by
    cases hq : (smallR ⟨l, false⟩).2.short with
    | false => rfl
    | true =>
      generalize smallR ⟨l, false⟩ = p at *
      obtain ⟨a, r, s⟩ := p
      simp only at hq h
      subst hq
      rw [takeR_short] at h; cases h
  obtain ⟨h1, h2⟩ := small_eats hs
  generalize smallR ⟨l, false⟩ = p at *
  obtain ⟨n, r, s⟩ := p
  simp only at hs h h1 h2 ⊢
  subst hs
  obtain ⟨h3, h4⟩ := take_eats h
  unfold textB
  have h5 : ((⟨(takeR ⟨r, false⟩ n).1.toArray⟩ : ByteArray).size : Int) = n := by
    show (((takeR ⟨r, false⟩ n).1.toArray.size : Nat) : Int) = n
    simp [h3]
  rw [h5, h1]
  simp only [List.cons_append]
  congr 1
theorem num_eats' {r : Rd} (h : (numR r).2.short = false) (hn : inNum (numR r).1) : r.short = false ∧ r.rest = numB (numR r).1 ++ (numR r).2.rest := by
  obtain ⟨l, s⟩ := r
  cases s with
  | true => rw [reads_num.stuck l] at h; cases h
  | false => exact ⟨rfl, num_eats h hn⟩
theorem small_eats' {r : Rd} (h : (smallR r).2.short = false) : r.short = false ∧ r.rest = smallB (smallR r).1 :: (smallR r).2.rest ∧ (smallR r).1 < 256 := by
  obtain ⟨l, s⟩ := r
  cases s with
  | true => rw [reads_small.stuck l] at h; cases h
  | false => exact ⟨rfl, small_eats h⟩
theorem text_eats' {r : Rd} (h : (txtR r).2.short = false) : r.short = false ∧ r.rest = textB (txtR r).1 ++ (txtR r).2.rest := by
  obtain ⟨l, s⟩ := r
  cases s with
  | true => rw [reads_text.stuck l] at h; cases h
  | false => exact ⟨rfl, text_eats h⟩
end Go.Proofs.YtkkleopmambcnaaGreatDoor
set_option linter.unusedVariables false
set_option linter.unusedSimpArgs false
set_option maxRecDepth 100000
set_option maxHeartbeats 8000000
namespace Go.Proofs.YtkkleopmambcnaaGreatDoor
open Go Go.RowKit Go.Proofs.AE
structure Codec {α : Type} (f : Rd → α × Rd) (g : α → List UInt8) (ok : α → Prop) : Prop where
  back : ∀ a rest, ok a → f ⟨g a ++ rest, false⟩ = (a, ⟨rest, false⟩)
  reads : Reads f
  eats : ∀ r, (f r).2.short = false → ok (f r).1 → r.short = false ∧ r.rest = g (f r).1 ++ (f r).2.rest
theorem Codec.num : Codec numR numB inNum := ⟨fun n rest h => numR_app h rest, reads_num, fun r h hn => num_eats' h hn⟩
theorem Codec.text : Codec txtR textB (fun t => t.size ≤ 255) := ⟨fun t rest h => txtR_app h rest, reads_text, fun r h _ => text_eats' h⟩
def smR (r : Rd) : Int × Rd := ((smallR r).1, (smallR r).2)
theorem Codec.small : Codec smR (fun n => [smallB n]) (fun n => 0 ≤ n ∧ n < 256) := by
  refine ⟨fun n rest h => ?_, reads_small.map fun n : Nat => (n : Int), fun r h hn => ?_⟩
  · have := smallR_app (smallB n) rest
    unfold smR
    rw [show [smallB n] ++ rest = smallB n :: rest from rfl, this, smallB_toNat h.1 h.2]
    simp only [Prod.mk.injEq, and_true]
    omega
  · obtain ⟨h1, h2, _⟩ := small_eats' (r := r) h
    exact ⟨h1, h2⟩
theorem Codec.seq {α β : Type} {f : Rd → α × Rd} {g : α → List UInt8} {ok : α → Prop} {f' : Rd → β × Rd} {g' : β → List UInt8} {ok' : β → Prop} (A : Codec f g ok) (B : Codec f' g' ok') :
    Codec (fun r => (((f r).1, (f' (f r).2).1), (f' (f r).2).2)) (fun p => g p.1 ++ g' p.2) (fun p => ok p.1 ∧ ok' p.2) := by
  refine ⟨fun p rest h => ?_, Reads.bind (g := fun _ => f') Prod.mk A.reads fun _ => B.reads, fun r h ho => ?_⟩
  · simp only [List.append_assoc, A.back p.1 _ h.1, B.back p.2 _ h.2]
  · simp only at h ho ⊢
    obtain ⟨h1, h2⟩ := B.eats (f r).2 h ho.2
    obtain ⟨h3, h4⟩ := A.eats r h1 ho.1
    exact ⟨h3, by rw [h4, h2, List.append_assoc]⟩
theorem Codec.iso {α β : Type} {f : Rd → α × Rd} {g : α → List UInt8} {ok : α → Prop} (A : Codec f g ok) (to : α → β) (of : β → α) (h1 : ∀ b, to (of b) = b) (h2 : ∀ a, of (to a) = a) :
    Codec (fun r => (to (f r).1, (f r).2)) (fun b => g (of b)) (fun b => ok (of b)) := by
  refine ⟨fun b rest h => ?_, A.reads.map to, fun r h ho => ?_⟩
  · simp only [A.back (of b) rest h, h1]
  · simp only [h2] at h ho ⊢
    exact A.eats r h ho
def eachN {α : Type} (f : Rd → α × Rd) : Nat → Rd → List α × Rd
  | 0, r => ([], r)
  | n + 1, r => if r.short = true then ([], r) else ((f r).1 :: (eachN f n (f r).2).1, (eachN f n (f r).2).2)
def eachR {α : Type} (f : Rd → α × Rd) (r : Rd) : List α × Rd := eachN f (smallR r).1 (smallR r).2
def manyB {α : Type} (g : α → List UInt8) (l : List α) : List UInt8 := smallB l.length :: l.flatMap g
theorem eachN_back {α : Type} {f : Rd → α × Rd} {g : α → List UInt8} {ok : α → Prop} (A : Codec f g ok) : ∀ (l : List α) (rest : List UInt8), (∀ a ∈ l, ok a) → eachN f l.length ⟨l.flatMap g ++ rest, false⟩ = (l, ⟨rest, false⟩)
  | [], rest, _ => rfl
  | a :: l, rest, h => by
    have ih := eachN_back A l rest fun b hb => h b (List.mem_cons_of_mem _ hb)
    have ha := A.back a (l.flatMap g ++ rest) (h a (List.mem_cons_self ..))
    simp only [List.length_cons, eachN, List.flatMap_cons, List.append_assoc, Bool.false_eq_true, if_false, ha, ih]
theorem eachN_stuck {α : Type} {f : Rd → α × Rd} : ∀ (n : Nat) (l : List UInt8), (eachN f n ⟨l, true⟩).2.short = true
  | 0, _ => rfl
  | n + 1, l => by simp [eachN]
theorem eachN_reads {α : Type} {f : Rd → α × Rd} (A : Reads f) : ∀ n, Reads (eachN f n)
  | 0 => ⟨fun l => rfl, fun l1 l2 _ => rfl⟩
  | n + 1 => by
    have ih := eachN_reads A n
    have hb := Reads.bind (f := f) (g := fun _ => eachN f n) (fun a l => a :: l) A fun _ => ih
    refine ⟨fun l => eachN_stuck (n + 1) l, fun l1 l2 h => ?_⟩
    simp only [eachN, Bool.false_eq_true, if_false] at h ⊢
    exact hb.ext l1 l2 h
theorem eachN_eats {α : Type} {f : Rd → α × Rd} {g : α → List UInt8} {ok : α → Prop} (A : Codec f g ok) : ∀ (n : Nat) (r : Rd), (eachN f n r).2.short = false → (∀ a ∈ (eachN f n r).1, ok a) → r.short = false ∧ (eachN f n r).1.length = n ∧ r.rest = (eachN f n r).1.flatMap g ++ (eachN f n r).2.rest
  | 0, r, h, _ => ⟨h, rfl, rfl⟩
  | n + 1, r, h, ho => by
    unfold eachN at h ho ⊢
    by_cases hs : r.short = true
    · rw [if_pos hs] at h; rw [hs] at h; cases h
    · rw [if_neg hs] at h ho ⊢
      simp only [List.mem_cons] at h ho ⊢
      obtain ⟨i1, i2, i3⟩ := eachN_eats A n (f r).2 h fun a ha => ho a (.inr ha)
      obtain ⟨j1, j2⟩ := A.eats r i1 (ho _ (.inl rfl))
      exact ⟨j1, by simp [i2], by rw [j2, i3]; simp⟩
theorem Codec.many {α : Type} {f : Rd → α × Rd} {g : α → List UInt8} {ok : α → Prop} (A : Codec f g ok) : Codec (eachR f) (manyB g) (fun l => l.length ≤ 255 ∧ ∀ a ∈ l, ok a) := by
  refine ⟨fun l rest h => ?_, ?_, fun r h ho => ?_⟩
  · unfold eachR manyB
    rw [List.cons_append, smallR_app, smallB_toNat (by omega) (by omega)]
    simp only [Int.toNat_natCast]
    exact eachN_back A l rest h.2
  · exact Reads.bind (f := smallR) (g := fun n => eachN f n) (fun _ l => l) reads_small fun n => eachN_reads A.reads n
  · unfold eachR at h ho ⊢
    obtain ⟨h1, h2, h3⟩ := eachN_eats A _ _ h ho.2
    obtain ⟨h4, h5, _⟩ := small_eats' (r := r) h1
    refine ⟨h4, ?_⟩
    unfold manyB
    rw [h5, h3, h2]
    rfl
def prR (r : Rd) : Pr × Rd := (((txtR r).1, (txtR (txtR r).2).1), (txtR (txtR r).2).2)
def prB (p : Pr) : List UInt8 := textB p.1 ++ textB p.2
theorem Codec.pr : Codec prR prB (fun p => p.1.size ≤ 255 ∧ p.2.size ≤ 255) := Codec.seq Codec.text Codec.text
def scR (r : Rd) : Sc × Rd := (((txtR r).1, (numR (txtR r).2).1), (numR (txtR r).2).2)
def scB (s : Sc) : List UInt8 := textB s.1 ++ numB s.2
theorem Codec.sc : Codec scR scB (fun s => s.1.size ≤ 255 ∧ inNum s.2) := Codec.seq Codec.text Codec.num
abbrev ValT : Type := Int × ByteArray × Int × List Pr × List ByteArray × List Sc
def valT (v : Val) : ValT := (v.kind, v.text, v.count, v.pairs, v.items, v.scores)
def tVal (p : ValT) : Val := ⟨p.1, p.2.1, p.2.2.1, p.2.2.2.1, p.2.2.2.2.1, p.2.2.2.2.2⟩
def sqR {α β : Type} (f : Rd → α × Rd) (g : Rd → β × Rd) (r : Rd) : (α × β) × Rd := (((f r).1, (g (f r).2).1), (g (f r).2).2)
def mapR {α β : Type} (t : α → β) (f : Rd → α × Rd) (r : Rd) : β × Rd := (t (f r).1, (f r).2)
def valR : Rd → Val × Rd := mapR tVal (sqR smR (sqR txtR (sqR numR (sqR (eachR prR) (sqR (eachR txtR) (eachR scR))))))
def valB (v : Val) : List UInt8 := [smallB v.kind] ++ (textB v.text ++ (numB v.count ++ (manyB prB v.pairs ++ (manyB textB v.items ++ manyB scB v.scores))))
structure SizV (v : Val) : Prop where
  kind : 0 ≤ v.kind ∧ v.kind < 256
  text : v.text.size ≤ 255
  count : inNum v.count
  pairs : v.pairs.length ≤ 255 ∧ ∀ p ∈ v.pairs, p.1.size ≤ 255 ∧ p.2.size ≤ 255
  items : v.items.length ≤ 255 ∧ ∀ t ∈ v.items, t.size ≤ 255
  scores : v.scores.length ≤ 255 ∧ ∀ s ∈ v.scores, s.1.size ≤ 255 ∧ inNum s.2
theorem Codec.ok {α : Type} {f : Rd → α × Rd} {g : α → List UInt8} {ok ok' : α → Prop} (A : Codec f g ok) (h : ∀ a, ok' a → ok a) : Codec f g ok' := ⟨fun a rest ha => A.back a rest (h a ha), A.reads, fun r hs ha => A.eats r hs (h _ ha)⟩
theorem Codec.val : Codec valR valB SizV :=
  ((Codec.small.seq (Codec.text.seq (Codec.num.seq (Codec.pr.many.seq (Codec.text.many.seq Codec.sc.many))))).iso tVal valT (fun v => rfl) (fun p => rfl)).ok
    fun v h => ⟨h.kind, h.text, h.count, h.pairs, h.items, h.scores⟩
abbrev EntT : Type := ByteArray × Val × Int
def tEnt (p : EntT) : Ent := ⟨p.1, p.2.1, p.2.2⟩
def entR : Rd → Ent × Rd := mapR tEnt (sqR txtR (sqR valR numR))
def entB (e : Ent) : List UInt8 := textB e.key ++ (valB e.val ++ numB e.till)
structure SizE (e : Ent) : Prop where
  key : e.key.size ≤ 255
  val : SizV e.val
  till : inNum e.till
theorem Codec.ent : Codec entR entB SizE :=
  ((Codec.text.seq (Codec.val.seq Codec.num)).iso tEnt (fun e => (e.key, e.val, e.till)) (fun e => rfl) (fun p => rfl)).ok fun e h => ⟨h.key, h.val, h.till⟩
abbrev CliT : Type := Int × Int × Int × Int × ByteArray × Int × List ByteArray
def tCli (p : CliT) : Cli := ⟨p.1, p.2.1, p.2.2.1, ⟨p.2.2.2.1, p.2.2.2.2.1, p.2.2.2.2.2.1, p.2.2.2.2.2.2⟩⟩
def cliR : Rd → Cli × Rd := mapR tCli (sqR numR (sqR numR (sqR numR (sqR smR (sqR txtR (sqR numR (eachR txtR)))))))
def cliB (x : Cli) : List UInt8 := numB x.id ++ (numB x.seq ++ (numB x.time ++ ([smallB x.reply.code] ++ (textB x.reply.text ++ (numB x.reply.n ++ manyB textB x.reply.list)))))
structure SizC (x : Cli) : Prop where
  id : inNum x.id
  seq : inNum x.seq
  time : inNum x.time
  code : 0 ≤ x.reply.code ∧ x.reply.code < 256
  text : x.reply.text.size ≤ 255
  n : inNum x.reply.n
  list : x.reply.list.length ≤ 255 ∧ ∀ t ∈ x.reply.list, t.size ≤ 255
theorem Codec.cli : Codec cliR cliB SizC :=
  ((Codec.num.seq (Codec.num.seq (Codec.num.seq (Codec.small.seq (Codec.text.seq (Codec.num.seq Codec.text.many)))))).iso tCli (fun x => (x.id, x.seq, x.time, x.reply.code, x.reply.text, x.reply.n, x.reply.list)) (fun x => rfl) (fun p => rfl)).ok
    fun x h => ⟨h.id, h.seq, h.time, h.code, h.text, h.n, h.list⟩
abbrev MachT : Type := Int × List Ent × Int × List Cli
def tMach (p : MachT) : Mach := ⟨⟨p.1, p.2.1⟩, p.2.2.1, p.2.2.2⟩
def machR : Rd → Mach × Rd := mapR tMach (sqR numR (sqR (eachR entR) (sqR numR (eachR cliR))))
def machB (m : Mach) : List UInt8 := numB m.sto.now ++ (manyB entB m.sto.ents ++ (numB m.next ++ manyB cliB m.clis))
structure SizM (m : Mach) : Prop where
  now : inNum m.sto.now
  ents : m.sto.ents.length ≤ 255 ∧ ∀ e ∈ m.sto.ents, SizE e
  next : inNum m.next
  clis : m.clis.length ≤ 255 ∧ ∀ x ∈ m.clis, SizC x
theorem Codec.mach : Codec machR machB SizM :=
  ((Codec.num.seq (Codec.ent.many.seq (Codec.num.seq Codec.cli.many))).iso tMach (fun m => (m.sto.now, m.sto.ents, m.next, m.clis)) (fun m => rfl) (fun p => rfl)).ok fun m h => ⟨h.now, h.ents, h.next, h.clis⟩
def endR (r : Rd) : Int := if r.short = true then 9 else if 0 < r.rest.length then 8 else 0
def decM (l : List UInt8) : Mach × Int :=
  if 20000 < l.length then (zeroM, 1)
  else if endR (machR ⟨l, false⟩).2 ≠ 0 then (zeroM, endR (machR ⟨l, false⟩).2)
  else if checkM (machR ⟨l, false⟩).1 ≠ 0 then (zeroM, checkM (machR ⟨l, false⟩).1)
  else ((machR ⟨l, false⟩).1, 0)
end Go.Proofs.YtkkleopmambcnaaGreatDoor
set_option linter.unusedVariables false
set_option linter.unusedSimpArgs false
set_option maxRecDepth 100000
set_option maxHeartbeats 8000000
namespace Go.Proofs.YtkkleopmambcnaaGreatDoor
open Go Go.RowKit Go.Proofs.AE
variable {G : Nat → AV}
abbrev bC (b : Bool) : C := .v (.lit (.bool b))
def noCall (client seq k : Int) (key field text : ByteArray) (n : Int) : Bool := client == 0 && (seq == 0 && (k == 0 && (decide (key = ⟨#[]⟩) && (decide (field = ⟨#[]⟩) && (decide (text = ⟨#[]⟩) && n == 0)))))
def checkItem (term time : Int) (nop : Bool) (client seq k : Int) (key field text : ByteArray) (n : Int) : Int :=
  if decide (term < 1) then 2 else if decide (1048576 < term) then 2 else if decide (time < 0) then 2 else if decide (1073741824 < time) then 2
  else if nop then (if noCall client seq k key field text n then 0 else 8) else checkCall client seq k key field text n
end Go.Proofs.YtkkleopmambcnaaGreatDoor
set_option linter.unusedVariables false
set_option linter.unusedSimpArgs false
set_option maxRecDepth 100000
set_option maxHeartbeats 8000000
namespace Go.Proofs.YtkkleopmambcnaaGreatDoor
open Go Go.RowKit Go.Proofs.AE
variable {G : Nat → AV}
end Go.Proofs.YtkkleopmambcnaaGreatDoor
set_option linter.unusedVariables false
set_option linter.unusedSimpArgs false
set_option maxRecDepth 100000
set_option maxHeartbeats 8000000
namespace Go.Proofs.YtkkleopmambcnaaGreatDoor
open Go Go.RowKit Go.Proofs.AE
variable {G : Nat → AV}
structure Item where
  term : Int
  time : Int
  nop : Bool
  client : Int
  seq : Int
  k : Int
  key : ByteArray
  field : ByteArray
  text : ByteArray
  n : Int
def Item.row (x : Item) : List V := [iL x.term, iL x.time, .lit (.bool x.nop), iL x.client, iL x.seq, iL x.k, sL x.key, sL x.field, sL x.text, iL x.n]
def Item.check (x : Item) : Int := checkItem x.term x.time x.nop x.client x.seq x.k x.key x.field x.text x.n
end Go.Proofs.YtkkleopmambcnaaGreatDoor
set_option linter.unusedVariables false
set_option linter.unusedSimpArgs false
set_option maxRecDepth 100000
set_option maxHeartbeats 8000000
namespace Go.Proofs.YtkkleopmambcnaaGreatDoor
open Go Go.RowKit Go.Proofs.AE
variable {G : Nat → AV}
def cmdB (k : Int) (key field text : ByteArray) (n : Int) : List UInt8 := [smallB k] ++ textB key ++ textB field ++ textB text ++ numB n
def callB (client seq k : Int) (key field text : ByteArray) (n : Int) : List UInt8 := numB client ++ (if 0 < client then numB seq ++ cmdB k key field text n else [])
def itemB (x : Item) : List UInt8 := numB x.term ++ numB x.time ++ (if x.nop then [1] else [0] ++ callB x.client x.seq x.k x.key x.field x.text x.n)
structure WCmd where
  k : Int
  key : ByteArray
  field : ByteArray
  text : ByteArray
  n : Int
def wcmdR (r : Rd) : WCmd × Rd :=
  let a := smallR r
  let b := txtR a.2
  let c := txtR b.2
  let d := txtR c.2
  let e := numR d.2
  (⟨a.1, b.1, c.1, d.1, e.1⟩, e.2)
def callR (r : Rd) : (Int × Int × WCmd) × Rd :=
  let a := numR r
  if a.1 = 0 then ((0, 0, ⟨0, ⟨#[]⟩, ⟨#[]⟩, ⟨#[]⟩, 0⟩), a.2)
  else
    let b := numR a.2
    let c := wcmdR b.2
    ((a.1, b.1, c.1), c.2)
def itemR (r : Rd) : Item × Bool × Rd :=
  let a := numR r
  let b := numR a.2
  let c := smallR b.2
  if c.1 = 0 then
    let d := callR c.2
    (⟨a.1, b.1, false, d.1.1, d.1.2.1, d.1.2.2.k, d.1.2.2.key, d.1.2.2.field, d.1.2.2.text, d.1.2.2.n⟩, true, d.2)
  else (⟨a.1, b.1, decide (c.1 = 1), 0, 0, 0, ⟨#[]⟩, ⟨#[]⟩, ⟨#[]⟩, 0⟩, decide (c.1 = 1), c.2)
end Go.Proofs.YtkkleopmambcnaaGreatDoor
set_option linter.unusedVariables false
set_option linter.unusedSimpArgs false
set_option maxRecDepth 100000
set_option maxHeartbeats 8000000
namespace Go.Proofs.YtkkleopmambcnaaGreatDoor
open Go Go.RowKit Go.Proofs.AE
variable {G : Nat → AV}
end Go.Proofs.YtkkleopmambcnaaGreatDoor
set_option linter.unusedVariables false
set_option linter.unusedSimpArgs false
set_option maxRecDepth 100000
set_option maxHeartbeats 8000000
namespace Go.Proofs.YtkkleopmambcnaaGreatDoor
open Go Go.RowKit Go.Proofs.AE
variable {G : Nat → AV}
abbrev WCmd.cells (c : WCmd) : List C := [iC c.k, sC c.key, sC c.field, sC c.text, iC c.n]
def zeroItem : Item := ⟨0, 0, false, 0, 0, 0, ⟨#[]⟩, ⟨#[]⟩, ⟨#[]⟩, 0⟩
def decItem (l : List UInt8) : Item × Int :=
  if 20000 < l.length then (zeroItem, 1)
  else
    let a := itemR ⟨l, false⟩
    if a.2.2.short then (zeroItem, 9)
    else if a.2.1 = false ∨ 0 < a.2.2.rest.length then (zeroItem, 8)
    else if a.1.check = 0 then (a.1, 0) else (zeroItem, a.1.check)
end Go.Proofs.YtkkleopmambcnaaGreatDoor
set_option linter.unusedVariables false
set_option linter.unusedSimpArgs false
set_option maxRecDepth 100000
set_option maxHeartbeats 8000000
namespace Go.Proofs.YtkkleopmambcnaaGreatDoor
open Go Go.RowKit Go.Proofs.AE
variable {G : Nat → AV}
theorem Reads.pure {α : Type} (a : α) : Reads (fun r => (a, r)) := ⟨fun _ => rfl, fun _ _ _ => rfl⟩
end Go.Proofs.YtkkleopmambcnaaGreatDoor
set_option linter.unusedVariables false
set_option linter.unusedSimpArgs false
set_option maxRecDepth 100000
set_option maxHeartbeats 8000000
namespace Go.Proofs.YtkkleopmambcnaaGreatDoor
open Go Go.RowKit Go.Proofs.AE
variable {G : Nat → AV}
abbrev logC (base bt : Int) (x : List Item) : List C := [iC base, iC bt, .v (.sl (x.map Item.row))]
def chk : List Item → Int → Int → Bool
  | [], _, _ => true
  | x :: l, t, m => x.check == 0 && (decide (t ≤ x.term) && (decide (m ≤ x.time) && chk l x.term x.time))
def headOk (base bt : Int) (len : Nat) : Bool :=
  !decide (base < 0) && (!decide (bt < 0) && (!decide (1048576 < bt) && ((base == 0) == (bt == 0) && (!decide (200 < (len : Int)) && !decide (1048576 - (len : Int) < base)))))
def checkLog (base bt : Int) (x : List Item) : Int := if headOk base bt x.length then (if chk x bt 0 then 0 else 13) else 13
end Go.Proofs.YtkkleopmambcnaaGreatDoor
set_option linter.unusedVariables false
set_option linter.unusedSimpArgs false
set_option maxRecDepth 100000
set_option maxHeartbeats 8000000
namespace Go.Proofs.YtkkleopmambcnaaGreatDoor
open Go Go.RowKit Go.Proofs.AE
variable {G : Nat → AV}
def lastTerm (bt : Int) (x : List Item) : Int := match x[x.length - 1]? with | some y => y.term | none => bt
def termAt (base bt : Int) (x : List Item) (place : Int) : Int := if place < base then 0 else if place = base then bt else if (x.length : Int) < place - base then 0 else match x[(place - base - 1).toNat]? with | some y => y.term | none => 0
def termErr (base : Int) (len : Nat) (place : Int) : Int := if place < base then 11 else if place = base then 0 else if (len : Int) < place - base then 5 else 0
end Go.Proofs.YtkkleopmambcnaaGreatDoor
set_option linter.unusedVariables false
set_option linter.unusedSimpArgs false
set_option maxRecDepth 100000
set_option maxHeartbeats 8000000
namespace Go.Proofs.YtkkleopmambcnaaGreatDoor
open Go Go.RowKit Go.Proofs.AE
end Go.Proofs.YtkkleopmambcnaaGreatDoor
set_option linter.unusedVariables false
set_option linter.unusedSimpArgs false
set_option maxRecDepth 100000
set_option maxHeartbeats 8000000
namespace Go.Proofs.YtkkleopmambcnaaGreatDoor
open Go Go.RowKit Go.Proofs.AE
variable {G : Nat → AV}
end Go.Proofs.YtkkleopmambcnaaGreatDoor
set_option linter.unusedVariables false
set_option linter.unusedSimpArgs false
set_option maxRecDepth 100000
set_option maxHeartbeats 8000000
namespace Go.Proofs.YtkkleopmambcnaaGreatDoor
open Go Go.RowKit Go.Proofs.AE
end Go.Proofs.YtkkleopmambcnaaGreatDoor
set_option linter.unusedVariables false
set_option linter.unusedSimpArgs false
set_option maxRecDepth 100000
set_option maxHeartbeats 8000000
namespace Go.Proofs.YtkkleopmambcnaaGreatDoor
open Go Go.RowKit Go.Proofs.AE
variable {G : Nat → AV}
def Item.same (x y : Item) : Bool := (x.term == y.term) && ((x.time == y.time) && ((x.nop == y.nop) && ((x.client == y.client) && ((x.seq == y.seq) && ((x.k == y.k) && (decide (x.key = y.key) && (decide (x.field = y.field) && (decide (x.text = y.text) && (x.n == y.n)))))))))
theorem Item.same_iff (x y : Item) : x.same y = true ↔ x = y := by
  cases x; cases y; simp [Item.same]
instance : DecidableEq Item := fun x y => decidable_of_iff (x.same y = true) (Item.same_iff x y)
def behind (base : Int) (x : List Item) (place most : Int) : List Item := (x.drop (place - base).toNat).take most.toNat
end Go.Proofs.YtkkleopmambcnaaGreatDoor
set_option linter.unusedVariables false
set_option linter.unusedSimpArgs false
set_option maxRecDepth 100000
set_option maxHeartbeats 8000000
namespace Go.Proofs.YtkkleopmambcnaaGreatDoor
open Go Go.RowKit Go.Proofs.AE
structure Rcd where
  kind : Int
  term : Int
  fr : Int
  index : Int
  item : Item
  sidx : Int
  sterm : Int
  mach : Mach
def noSnap (r : Rcd) : Bool := r.sidx == 0 && r.sterm == 0 && r.mach.next == 0 && r.mach.clis.isEmpty && r.mach.sto.now == 0 && r.mach.sto.ents.isEmpty
def checkSnap (i t : Int) (m : Mach) : Int := if okNumber i = false ∨ okNumber t = false then 2 else checkM m
def checkRc (r : Rcd) : Int :=
  if r.kind < 1 ∨ 3 < r.kind then 3
  else if (r.kind ≠ 1 ∧ (r.term ≠ 0 ∨ r.fr ≠ 0)) ∨ (r.kind ≠ 2 ∧ (r.index ≠ 0 ∨ r.item ≠ zeroItem)) ∨ (r.kind ≠ 3 ∧ noSnap r = false) then 8
  else if r.kind = 1 then (if okNumber r.term = false ∨ r.fr < -1 ∨ 3 ≤ r.fr then 2 else 0)
  else if r.kind = 2 then (if okNumber r.index = false then 2 else r.item.check)
  else checkSnap r.sidx r.sterm r.mach
def threeB (n : Int) : List UInt8 := [smallB (n / 65536), smallB (n / 256), smallB n]
def valB3 (a b c : UInt8) : Int := a.toNat * 65536 + b.toNat * 256 + c.toNat
def encRc (r : Rcd) : List UInt8 :=
  if r.kind = 1 then 1 :: (threeB r.term ++ [smallB (r.fr + 1)])
  else if r.kind = 2 then 2 :: (threeB r.index ++ itemB r.item)
  else 3 :: (threeB r.sidx ++ (threeB r.sterm ++ machB r.mach))
def frameB (r : Rcd) : List UInt8 := threeB (encRc r).length ++ encRc r
def zeroRc : Rcd := ⟨0, 0, 0, 0, zeroItem, 0, 0, zeroM⟩
def decRc (b : List UInt8) : Rcd × Bool :=
  match b with
  | [1, x, y, z, f] => let r : Rcd := ⟨1, valB3 x y z, (f.toNat : Int) - 1, 0, zeroItem, 0, 0, zeroM⟩; (r, checkRc r == 0)
  | 2 :: x :: y :: z :: t => if t = [] then (zeroRc, false) else let r : Rcd := ⟨2, 0, 0, valB3 x y z, (decItem t).1, 0, 0, zeroM⟩; (r, (decItem t).2 == 0 && checkRc r == 0)
  | 3 :: x :: y :: z :: u :: v :: w :: t => if t = [] then (zeroRc, false) else let r : Rcd := ⟨3, 0, 0, 0, zeroItem, valB3 x y z, valB3 u v w, (decM t).1⟩; (r, (decM t).2 == 0 && checkRc r == 0)
  | _ => (zeroRc, false)
def recGo : Nat → List UInt8 → List Rcd × Nat
  | 0, _ => ([], 0)
  | n + 1, d => match d with
    | x :: y :: z :: t =>
      if (t.length : Int) < valB3 x y z then ([], 0)
      else if (decRc (t.take (valB3 x y z).toNat)).2 = false then ([], 0)
      else ((decRc (t.take (valB3 x y z).toNat)).1 :: (recGo n (t.drop (valB3 x y z).toNat)).1, 3 + (valB3 x y z).toNat + (recGo n (t.drop (valB3 x y z).toNat)).2)
    | _ => ([], 0)
def recB (d : List UInt8) : List Rcd × Nat := recGo d.length d
end Go.Proofs.YtkkleopmambcnaaGreatDoor
set_option linter.unusedVariables false
set_option linter.unusedSimpArgs false
set_option maxRecDepth 100000
set_option maxHeartbeats 8000000
namespace Go.Proofs.YtkkleopmambcnaaGreatDoor
open Go Go.RowKit Go.Proofs.AE
structure Lg where
  base : Int
  bt : Int
  items : List Item
def Lg.c (g : Lg) : List C := logC g.base g.bt g.items
def Lg.check (g : Lg) : Int := checkLog g.base g.bt g.items
def zeroLg : Lg := ⟨0, 0, []⟩
structure Dsk where
  term : Int
  fr : Int
  sidx : Int
  sterm : Int
  mach : Mach
  log : Lg
def Dsk.c (d : Dsk) : List C := [iC d.term, iC d.fr, iC d.sidx, iC d.sterm] ++ d.mach.c ++ d.log.c
def zeroD : Dsk := ⟨0, 0, 0, 0, zeroM, zeroLg⟩
def newD : Dsk := ⟨0, -1, 0, 0, newM, zeroLg⟩
def lineD (g : Lg) (place : Int) (x : Item) : Lg × Int :=
  if place ≤ g.base then (g, 0)
  else if g.base + g.items.length + 1 < place then (g, 10)
  else if checkLog g.base g.bt (g.items.take (place - g.base - 1).toNat ++ [x]) ≠ 0 then (g, 10)
  else (⟨g.base, g.bt, g.items.take (place - g.base - 1).toNat ++ [x]⟩, 0)
def restD (g : Lg) (i t : Int) : Lg :=
  if termErr g.base g.items.length i = 0 ∧ termAt g.base g.bt g.items i = t then ⟨i, t, g.items.drop (i - g.base).toNat⟩ else ⟨i, t, []⟩
def foldStep (d : Dsk) (r : Rcd) : Dsk × Int :=
  if checkRc r ≠ 0 then (zeroD, checkRc r)
  else if r.kind = 1 then ({ d with term := r.term, fr := r.fr }, 0)
  else if r.kind = 2 then (if (lineD d.log r.index r.item).2 ≠ 0 then (zeroD, (lineD d.log r.index r.item).2) else ({ d with log := (lineD d.log r.index r.item).1 }, 0))
  else if d.sidx < r.sidx then ({ d with sidx := r.sidx, sterm := r.sterm, mach := r.mach, log := restD d.log r.sidx r.sterm }, 0)
  else (d, 0)
def foldGo (d : Dsk) : List Rcd → Dsk × Int
  | [] => (d, 0)
  | r :: l => if (foldStep d r).2 ≠ 0 then (foldStep d r) else foldGo (foldStep d r).1 l
def foldD (l : List Rcd) : Dsk × Int := foldGo newD l
end Go.Proofs.YtkkleopmambcnaaGreatDoor
set_option linter.unusedVariables false
set_option linter.unusedSimpArgs false
set_option maxRecDepth 100000
set_option maxHeartbeats 8000000
namespace Go.Proofs.YtkkleopmambcnaaGreatDoor
open Go Go.RowKit Go.Proofs.AE
def lastT (t : Int) (a : List Item) : Int := match a.getLast? with | some y => y.term | none => t
def markRc (t f : Int) : Rcd := ⟨1, t, f, 0, zeroItem, 0, 0, zeroM⟩
def loadRc (i t : Int) (m : Mach) : Rcd := ⟨3, 0, 0, 0, zeroItem, i, t, m⟩
end Go.Proofs.YtkkleopmambcnaaGreatDoor
set_option linter.unusedVariables false
set_option linter.unusedSimpArgs false
set_option maxRecDepth 100000
set_option maxHeartbeats 8000000
namespace Go.Proofs.YtkkleopmambcnaaGreatDoor
open Go Go.RowKit Go.Proofs.AE
def firstNew (x : List Item) : Nat → List Item → Nat → Option Nat
  | _, [], _ => none
  | at', y :: l, i => if (match x[at']? with | some z => z.term == y.term | none => false) then firstNew x (at' + 1) l (i + 1) else some i
end Go.Proofs.YtkkleopmambcnaaGreatDoor
set_option linter.unusedVariables false
set_option linter.unusedSimpArgs false
set_option maxRecDepth 100000
set_option maxHeartbeats 8000000
namespace Go.Proofs.YtkkleopmambcnaaGreatDoor
open Go Go.RowKit Go.Proofs.AE
variable {G : Nat → AV}
end Go.Proofs.YtkkleopmambcnaaGreatDoor
set_option linter.unusedVariables false
set_option linter.unusedSimpArgs false
set_option maxRecDepth 100000
set_option maxHeartbeats 8000000
namespace Go.Proofs.YtkkleopmambcnaaGreatDoor
open Go Go.RowKit Go.Proofs.AE
variable {G : Nat → AV}
theorem checkCl_c (c : Cal) : PCall Tryz.prog G 46 [.agg c.c] (iV (checkCl c)) := checkCall_c c.client c.seq c.cmd.kind c.cmd.key c.cmd.field c.cmd.text c.cmd.n
end Go.Proofs.YtkkleopmambcnaaGreatDoor
set_option linter.unusedVariables false
set_option linter.unusedSimpArgs false
set_option maxRecDepth 100000
set_option maxHeartbeats 8000000
namespace Go.Proofs.YtkkleopmambcnaaGreatDoor
open Go Go.RowKit Go.Proofs.AE
variable {G : Nat → AV}
def Rcd.c (r : Rcd) : List C := [iC r.kind, iC r.term, iC r.fr, iC r.index, iC r.item.term, iC r.item.time, bC r.item.nop, iC r.item.client, iC r.item.seq, iC r.item.k, sC r.item.key, sC r.item.field, sC r.item.text, iC r.item.n, iC r.sidx, iC r.sterm, iC r.mach.sto.now, .v (.sl (eR r.mach.sto.ents)), iC r.mach.next, .v (.sl (clR r.mach.clis))]
def Rcd.row (r : Rcd) : List V := [iL r.kind, iL r.term, iL r.fr, iL r.index, iL r.item.term, iL r.item.time, .lit (.bool r.item.nop), iL r.item.client, iL r.item.seq, iL r.item.k, sL r.item.key, sL r.item.field, sL r.item.text, iL r.item.n, iL r.sidx, iL r.sterm, iL r.mach.sto.now, .sl (eR r.mach.sto.ents), iL r.mach.next, .sl (clR r.mach.clis)]
end Go.Proofs.YtkkleopmambcnaaGreatDoor
set_option linter.unusedVariables false
set_option linter.unusedSimpArgs false
set_option maxRecDepth 100000
set_option maxHeartbeats 8000000
namespace Go.Proofs.YtkkleopmambcnaaGreatDoor
open Go Go.RowKit Go.Proofs.AE
variable {G : Nat → AV}
end Go.Proofs.YtkkleopmambcnaaGreatDoor
set_option linter.unusedVariables false
set_option linter.unusedSimpArgs false
set_option maxRecDepth 100000
set_option maxHeartbeats 8000000
namespace Go.Proofs.YtkkleopmambcnaaGreatDoor
open Go Go.RowKit Go.Proofs.AE
variable {G : Nat → AV}
end Go.Proofs.YtkkleopmambcnaaGreatDoor
set_option linter.unusedVariables false
set_option linter.unusedSimpArgs false
set_option maxRecDepth 100000
set_option maxHeartbeats 8000000
namespace Go.Proofs.YtkkleopmambcnaaGreatDoor
open Go Go.RowKit Go.Proofs.AE
def cleanF : List Nat → List (Nat × AV) → List (Nat × AV)
  | _, [] => []
  | seen, (t, v) :: r => bif memB t seen then cleanF seen r else (t, v) :: cleanF (t :: seen) r
theorem getF_cleanF : ∀ (fr : List (Nat × AV)) (seen : List Nat) (t : Nat), t ∉ seen → getF (cleanF seen fr) t = getF fr t
  | [], _, _, _ => rfl
  | (u, v) :: r, seen, t, h => by
    unfold cleanF
    cases hm : memB u seen with
    | true =>
      have hu : u ∈ seen := memB_iff.1 hm
      have hne : u ≠ t := fun e => h (e ▸ hu)
      simp only [cond_true]
      rw [getF_cleanF r seen t h]
      simp only [getF, hne, if_false]
    | false =>
      simp only [cond_false, getF]
      by_cases e : u = t
      · simp [e]
      · simp only [e, if_false]
        exact getF_cleanF r (u :: seen) t (by simp only [List.mem_cons, not_or]; exact ⟨fun h => e h.symm, h⟩)
theorem clean_nil (seen : List Nat) : cleanF seen [] = [] := rfl
def cleanS (b : Bool) (seen : List Nat) (t : Nat) (v : AV) (r : List (Nat × AV)) : List (Nat × AV) := bif b then cleanF seen r else (t, v) :: cleanF (t :: seen) r
theorem clean_cons {seen : List Nat} {t : Nat} {v : AV} {r : List (Nat × AV)} : cleanF seen ((t, v) :: r) = cleanS (memB t seen) seen t v r := rfl
theorem clean_yes {seen : List Nat} {t : Nat} {v : AV} {r : List (Nat × AV)} : cleanS true seen t v r = cleanF seen r := rfl
theorem clean_no {seen : List Nat} {t : Nat} {v : AV} {r : List (Nat × AV)} : cleanS false seen t v r = (t, v) :: cleanF (t :: seen) r := rfl
theorem weak_autoC {k : Nat} {s s' : S} (h : WA k s ⟨cleanF [] s'.fr, s'.gl, s'.hp⟩) : Weak k s s' := by
  refine Weak.trans (weak_auto h) ⟨rfl, fun n w ok μ a hst => ⟨ok, μ, ⟨hst.hr, hst.size, hst.defers, fun t => ?_, hst.gl⟩, (Go.Proofs.AE.Step.refl hst.hr).far⟩⟩
  have := hst.fr t
  rw [getF_cleanF _ _ _ (by simp)] at this
  exact this
end Go.Proofs.YtkkleopmambcnaaGreatDoor
set_option linter.unusedVariables false
set_option linter.unusedSimpArgs false
set_option maxRecDepth 100000
set_option maxHeartbeats 8000000
namespace Go.Proofs.YtkkleopmambcnaaGreatDoor
open Go Go.RowKit Go.Proofs.AE
def subC : List Nat → ACode → ACode
  | [], c => c
  | i :: r, .seq a b => subC r (if i = 0 then a else b)
  | i :: r, .cond _ t e => subC r (if i = 0 then t else e)
  | _ :: r, .block _ c => subC r c
  | _ :: r, .loop c => subC r c
  | _, c => c
structure PartIs (d : ACode) : Prop where
theorem PartIs.of {f : Func} {c : ACode} {rs : List ResultVar} {d : ACode} (cc : CC f c rs) (p : List Nat) (h : subC p c = d := by (conv => lhs; simp [subC]); all_goals exact rfl) : PartIs d := ⟨⟩
def nthAlt : ACode → Nat → List AOp × List (Nat × Nat)
  | .regD l, j => l.getD j ([], [])
  | _, _ => ([], [])
def AltOk (P : Program) (c : ACode) (j : Nat) (s s' : S) : Prop := aopsD P (nthAlt c j).1 [] s (fun h q => stables P (nthAlt c j).1 (s :: h) (nthAlt c j).2 ∧ Weak 0 q s')
def AllOk (P : Program) (c : ACode) (s s' : S) : Nat → Prop
  | 0 => True
  | n + 1 => AltOk P c n s s' ∧ AllOk P c s s' n
theorem AllOk.get {P : Program} {c : ACode} {s s' : S} : ∀ {n : Nat}, AllOk P c s s' n → ∀ j, j < n → AltOk P c j s s'
  | 0, _, j, hj => by omega
  | n + 1, h, j, hj => by
    by_cases e : j = n
    · subst e; exact h.1
    · exact AllOk.get h.2 j (by omega)
end Go.Proofs.YtkkleopmambcnaaGreatDoor
set_option linter.unusedVariables false
set_option linter.unusedSimpArgs false
set_option maxRecDepth 100000
set_option maxHeartbeats 8000000
namespace Go.Proofs.YtkkleopmambcnaaGreatDoor
open Go Go.RowKit Go.Proofs.AE
variable {G : Nat → AV}
theorem smallR_lt (r : Rd) : (smallR r).1 < 256 := by
  unfold smallR
  split
  · rename_i c _ _
    have := c.toNat_lt
    exact this
  · simp
structure OnWay {α : Type} (f : Rd → α × Rd) (r0 : Rd) (n : Nat) (r : Rd) (l : List α) : Prop where
  eq : eachR f r0 = (l ++ (eachN f n r).1, (eachN f n r).2)
  le : l.length + n ≤ 255
theorem OnWay.first {α : Type} (f : Rd → α × Rd) (r0 : Rd) : OnWay f r0 (smallR r0).1 (smallR r0).2 [] := ⟨rfl, by have := smallR_lt r0; simp; omega⟩
theorem OnWay.next {α : Type} {f : Rd → α × Rd} {r0 r : Rd} {n : Nat} {l : List α} (h : OnWay f r0 (n + 1) r l) (hs : r.short = false) : OnWay f r0 n (f r).2 (l ++ [(f r).1]) := by
  refine ⟨?_, by have := h.le; simp; omega⟩
  have e : eachN f (n + 1) r = ((f r).1 :: (eachN f n (f r).2).1, (eachN f n (f r).2).2) := by
    show (if r.short = true then _ else _) = _
    rw [if_neg (by rw [hs]; simp)]
  rw [h.eq, e]
  simp
end Go.Proofs.YtkkleopmambcnaaGreatDoor
set_option linter.unusedVariables false
set_option linter.unusedSimpArgs false
set_option maxRecDepth 100000
set_option maxHeartbeats 8000000
namespace Go.Proofs.YtkkleopmambcnaaGreatDoor
open Go Go.RowKit Go.Proofs.AE
variable {G : Nat → AV}
end Go.Proofs.YtkkleopmambcnaaGreatDoor
set_option linter.unusedVariables false
set_option linter.unusedSimpArgs false
set_option maxRecDepth 100000
set_option maxHeartbeats 8000000
namespace Go.Proofs.YtkkleopmambcnaaGreatDoor
open Go Go.RowKit Go.Proofs.AE
variable {G : Nat → AV}
end Go.Proofs.YtkkleopmambcnaaGreatDoor
set_option linter.unusedVariables false
set_option linter.unusedSimpArgs false
set_option maxRecDepth 100000
set_option maxHeartbeats 8000000
namespace Go.Proofs.YtkkleopmambcnaaGreatDoor
open Go Go.RowKit Go.Proofs.AE
variable {G : Nat → AV}
end Go.Proofs.YtkkleopmambcnaaGreatDoor
set_option linter.unusedVariables false
set_option linter.unusedSimpArgs false
set_option maxRecDepth 100000
set_option maxHeartbeats 8000000
namespace Go.Proofs.YtkkleopmambcnaaGreatDoor
open Go Go.RowKit Go.Proofs.AE
variable {G : Nat → AV}
end Go.Proofs.YtkkleopmambcnaaGreatDoor
set_option linter.unusedVariables false
set_option linter.unusedSimpArgs false
set_option maxRecDepth 100000
set_option maxHeartbeats 8000000
namespace Go.Proofs.YtkkleopmambcnaaGreatDoor
open Go Go.RowKit Go.Proofs.AE
variable {G : Nat → AV}
end Go.Proofs.YtkkleopmambcnaaGreatDoor
set_option linter.unusedVariables false
set_option linter.unusedSimpArgs false
set_option maxRecDepth 100000
set_option maxHeartbeats 8000000
namespace Go.Proofs.YtkkleopmambcnaaGreatDoor
open Go Go.RowKit Go.Proofs.AE
variable {G : Nat → AV}
def crashN (d : List UInt8) (s k : Int) : Nat := (if k < (d.length : Int) - s then s + k else (d.length : Int)).toNat
end Go.Proofs.YtkkleopmambcnaaGreatDoor
set_option linter.unusedVariables false
set_option linter.unusedSimpArgs false
set_option maxRecDepth 100000
set_option maxHeartbeats 8000000
namespace Go.Proofs.YtkkleopmambcnaaGreatDoor
open Go Go.RowKit Go.Proofs.AE
variable {G : Nat → AV}
end Go.Proofs.YtkkleopmambcnaaGreatDoor
set_option linter.unusedVariables false
set_option linter.unusedSimpArgs false
set_option maxRecDepth 100000
set_option maxHeartbeats 8000000
namespace Go.Proofs.YtkkleopmambcnaaGreatDoor
open Go Go.RowKit Go.Proofs.AE
variable {G : Nat → AV}
def keepE (now : Int) (l : List Ent) : List Ent := l.filter fun e => !goneE now e
theorem keepE_succ (now : Int) {l : List Ent} {j : Nat} {e : Ent} (h : l[j]? = some e) : keepE now (l.take (j + 1)) = if goneE now e = true then keepE now (l.take j) else keepE now (l.take j) ++ [e] := by
  unfold keepE
  rw [List.take_add_one, h, Option.toList_some, List.filter_append]
  cases hg : goneE now e <;> simp [hg]
structure Way (now : Int) (l : List Ent) (j i : Nat) (rows : List (List V)) : Prop where
  len : rows.length = l.length
  le : j ≤ l.length
  lt : i < j
  many : i = (keepE now (l.take j)).length
  head : rows.take i = eR (keepE now (l.take j))
  tail : rows.drop j = eR (l.drop j)
  ul : UL 8 rows
theorem Way.at {now : Int} {l : List Ent} {j i : Nat} {rows : List (List V)} (h : Way now l j i rows) {e : Ent} (he : l[j]? = some e) : rows[j]? = some e.row := by
  have : (rows.drop j)[0]? = (eR (l.drop j))[0]? := by rw [h.tail]
  rw [List.getElem?_drop, List.getElem?_map, List.getElem?_drop] at this
  simpa [he] using this
theorem Way.skip {now : Int} {l : List Ent} {j i : Nat} {rows : List (List V)} (h : Way now l j i rows) {e : Ent} (he : l[j]? = some e) (hg : goneE now e = true) : Way now l (j + 1) i rows := by
  have hlt := lt_of_getElem? he
  have hk := keepE_succ now he
  rw [if_pos hg] at hk
  refine ⟨h.len, hlt, by have := h.lt; omega, by rw [hk]; exact h.many, by rw [hk]; exact h.head, ?_, h.ul⟩
  have : (rows.drop j).drop 1 = (eR (l.drop j)).drop 1 := by rw [h.tail]
  rw [List.drop_drop, ← List.map_drop, List.drop_drop] at this
  exact this
theorem Way.keep {now : Int} {l : List Ent} {j i : Nat} {rows : List (List V)} (h : Way now l j i rows) {e : Ent} (he : l[j]? = some e) (hg : goneE now e = false) : Way now l (j + 1) (i + 1) (rows.set i e.row) := by
  have hlt := lt_of_getElem? he
  have hk := keepE_succ now he
  rw [if_neg (by rw [hg]; simp)] at hk
  have hl := h.len
  have hij := h.lt
  refine ⟨by rw [List.length_set]; exact hl, hlt, by omega, by rw [hk, List.length_append, ← h.many]; rfl, ?_, ?_, ?_⟩
  · rw [hk]
    show List.take (i + 1) (rows.set i e.row) = List.map Ent.row (_ ++ [e])
    have hh : List.map Ent.row (keepE now (l.take j)) = rows.take i := h.head.symm
    rw [List.map_append, hh, List.take_add_one, List.getElem?_set_self (by omega)]
    simp only [Option.toList_some, List.map_cons, List.map_nil]
    congr 1
    rw [List.take_set_of_le (Nat.le_refl _)]
  · rw [List.drop_set_of_lt (by omega)]
    have : (rows.drop j).drop 1 = (eR (l.drop j)).drop 1 := by rw [h.tail]
    rw [List.drop_drop, ← List.map_drop, List.drop_drop] at this
    exact this
  · intro r hr
    rcases List.mem_or_eq_of_mem_set hr with hr | hr
    · exact h.ul r hr
    · rw [hr]; rfl
end Go.Proofs.YtkkleopmambcnaaGreatDoor
set_option linter.unusedVariables false
set_option linter.unusedSimpArgs false
set_option maxRecDepth 100000
set_option maxHeartbeats 8000000
namespace Go.Proofs.YtkkleopmambcnaaGreatDoor
open Go Go.RowKit Go.Proofs.AE
def Deed.raw (d : Deed) : Raw := ⟨d.kind, d.key, d.field, d.n, d.text⟩
theorem Deed.Ok.raw {d : Deed} (h : d.Ok) : d.raw.Ok := ⟨h.kind, h.key, h.field, h.n⟩
structure Inv (k : Nat) (m : Mach) : Prop where
  ok : OkM m
  next : m.next ≤ 1 + (k : Int)
  seq : ∀ x ∈ m.clis, x.seq ≤ (k : Int)
theorem Inv.mono {k j : Nat} {m : Mach} (h : Inv k m) (hk : k ≤ j) : Inv j m := ⟨h.ok, by have := h.next; omega, fun x hx => by have := h.seq x hx; omega⟩
instance : DecidableEq Cli := fun a b => decidable_of_iff (a.id = b.id ∧ a.seq = b.seq ∧ a.time = b.time ∧ a.reply.code = b.reply.code ∧ a.reply.text = b.reply.text ∧ a.reply.n = b.reply.n ∧ a.reply.list = b.reply.list) (by
  obtain ⟨a1, a2, a3, ⟨a4, a5, a6, a7⟩⟩ := a; obtain ⟨b1, b2, b3, ⟨b4, b5, b6, b7⟩⟩ := b; simp)
end Go.Proofs.YtkkleopmambcnaaGreatDoor
set_option linter.unusedVariables false
set_option linter.unusedSimpArgs false
set_option maxRecDepth 100000
set_option maxHeartbeats 8000000
namespace Go.Proofs.YtkkleopmambcnaaGreatDoor
open Go Go.RowKit Go.Proofs.AE
structure Msg where
  fr : Int
  to : Int
  kind : Int
  term : Int
  last : Int
  lt : Int
  yes : Bool
  commit : Int
  items : List Item
  sidx : Int
  sterm : Int
  mach : Mach
structure Wt where
  place : Int
  term : Int
  call : Cal
structure Tol where
  node : Int
  call : Cal
  rep : Rep
structure Nd where
  me : Int
  up : Bool
  clock : Int
  role : Int
  term : Int
  vote : Int
  log : Lg
  sidx : Int
  sterm : Int
  smach : Mach
  mach : Mach
  commit : Int
  v0 : Bool
  v1 : Bool
  v2 : Bool
  x0 : Int
  x1 : Int
  x2 : Int
  m0 : Int
  m1 : Int
  m2 : Int
  waits : List Wt
  td : List UInt8
  ts : Int
  out : List Msg
structure Crw where
  n0 : Nd
  n1 : Nd
  n2 : Nd
  away : List Msg
  told : List Tol
  led : List (Int × Int)
def Crw.nd (c : Crw) (i : Nat) : Nd := match i with | 0 => c.n0 | 1 => c.n1 | _ => c.n2
def Crw.set (c : Crw) (i : Nat) (n : Nd) : Crw := match i with | 0 => { c with n0 := n } | 1 => { c with n1 := n } | _ => { c with n2 := n }
def Cal.row (c : Cal) : List V := [iL c.client, iL c.seq, iL c.cmd.kind, sL c.cmd.key, sL c.cmd.field, sL c.cmd.text, iL c.cmd.n]
def Msg.row (m : Msg) : List V := [iL m.fr, iL m.to, iL m.kind, iL m.term, iL m.last, iL m.lt, .lit (.bool m.yes), iL m.commit, .sl (m.items.map Item.row), iL m.sidx, iL m.sterm, iL m.mach.sto.now, .sl (eR m.mach.sto.ents), iL m.mach.next, .sl (clR m.mach.clis)]
def Msg.c (m : Msg) : List C := [iC m.fr, iC m.to, iC m.kind, iC m.term, iC m.last, iC m.lt, .v (.lit (.bool m.yes)), iC m.commit, .v (.sl (m.items.map Item.row)), iC m.sidx, iC m.sterm, iC m.mach.sto.now, .v (.sl (eR m.mach.sto.ents)), iC m.mach.next, .v (.sl (clR m.mach.clis))]
def Wt.row (x : Wt) : List V := [iL x.place, iL x.term, iL x.call.client, iL x.call.seq, iL x.call.cmd.kind, sL x.call.cmd.key, sL x.call.cmd.field, sL x.call.cmd.text, iL x.call.cmd.n]
def Tol.row (x : Tol) : List V := [iL x.node, iL x.call.client, iL x.call.seq, iL x.call.cmd.kind, sL x.call.cmd.key, sL x.call.cmd.field, sL x.call.cmd.text, iL x.call.cmd.n, iL x.rep.code, sL x.rep.text, iL x.rep.n, .sl (strRows x.rep.list)]
def leadR (x : Int × Int) : List V := [iL x.1, iL x.2]
abbrev bCr (b : Bool) : C := .v (.lit (.bool b))
abbrev Nd.cs (n : Nd) (w o : Nat) : List C := [iC n.me, bCr n.up, iC n.clock, iC n.role, iC n.term, iC n.vote, iC n.log.base, iC n.log.bt, .v (.sl (n.log.items.map Item.row)),
  iC n.sidx, iC n.sterm, iC n.smach.sto.now, .v (.sl (eR n.smach.sto.ents)), iC n.smach.next, .v (.sl (clR n.smach.clis)), iC n.mach.sto.now, .v (.sl (eR n.mach.sto.ents)), iC n.mach.next, .v (.sl (clR n.mach.clis)), iC n.commit,
  bCr n.v0, bCr n.v1, bCr n.v2, iC n.x0, iC n.x1, iC n.x2, iC n.m0, iC n.m1, iC n.m2, .ar w, .v (.sl (bR n.td)), iC n.ts, .ar o]
abbrev Crw.hp (c : Crw) : Hp := [some (.box 113 (c.n0.cs 4 7 ++ c.n1.cs 5 8 ++ c.n2.cs 6 9 ++ [.ar 1, .ar 2, .ar 3])),
  some (.arr 144 15 (c.away.map Msg.row)), some (.arr 77 12 (c.told.map Tol.row)), some (.arr 61 2 (c.led.map leadR)),
  some (.arr 176 9 (c.n0.waits.map Wt.row)), some (.arr 176 9 (c.n1.waits.map Wt.row)), some (.arr 176 9 (c.n2.waits.map Wt.row)),
  some (.arr 144 15 (c.n0.out.map Msg.row)), some (.arr 144 15 (c.n1.out.map Msg.row)), some (.arr 144 15 (c.n2.out.map Msg.row))]
def zMsg : Msg := ⟨0, 0, 0, 0, 0, 0, false, 0, [], 0, 0, zeroM⟩
def Nd.write (n : Nd) (r : Rcd) : Nd × Bool :=
  if checkRc r ≠ 0 ∨ 400000 < n.td.length + 3 + (encRc r).length then (n, false) else ({ n with td := n.td ++ frameB r }, true)
def Nd.send (n : Nd) (to : Int) (m : Msg) : Nd := if n.out.length < 300 then { n with out := n.out ++ [{ m with fr := n.me, to := to }] } else n
def Nd.tellTo (n : Nd) (m : Msg) (to : Int) : Nd := if to ≠ n.me then n.send to m else n
def Nd.tell (n : Nd) (m : Msg) : Nd := ((n.tellTo m 0).tellTo m 1).tellTo m 2
def Nd.lastP (n : Nd) : Int := n.log.base + n.log.items.length
def Nd.lastT (n : Nd) : Int := lastTerm n.log.bt n.log.items
def Nd.mark (n : Nd) (term vote : Int) : Nd × Bool :=
  if (n.write (markRc term vote)).2 then ({ (n.write (markRc term vote)).1 with term := term, vote := vote }, true) else (n, false)
def Nd.follow (n : Nd) : Nd := { n with role := 0, waits := [] }
def Nd.hear (n : Nd) : Nd := if n.role = 2 then n.follow else n
def Nd.refuse (n : Nd) (to : Int) : Nd := n.send to { zMsg with kind := 8, term := n.term }
def Nd.many (n : Nd) : Bool := decide (2 ≤ n.v0.toNat + n.v1.toNat + n.v2.toNat)
def Nd.alone (n : Nd) : Nd := { n with v0 := n.me == 0, v1 := n.me == 1, v2 := n.me == 2 }
def matchGoD (g : Lg) (place : Int) (k : Nat) (its : List Item) : Lg × Bool × Int × Int :=
  match firstNew g.items k its 0 with
  | none => (g, true, 0, 0)
  | some i => if checkLog g.base g.bt (g.items.take (k + i) ++ its.drop i) = 0 then (⟨g.base, g.bt, g.items.take (k + i) ++ its.drop i⟩, true, place + i + 1, 0) else (zeroLg, false, 0, 6)
def matchD (g : Lg) (place of' : Int) (its : List Item) : Lg × Bool × Int × Int :=
  if checkLog place of' its ≠ 0 then (zeroLg, false, 0, 10)
  else if place < g.base then (if place + its.length < g.base then (g, true, 0, 0) else matchGoD g g.base 0 (its.drop (g.base - place).toNat))
  else if termErr g.base g.items.length place ≠ 0 ∨ termAt g.base g.bt g.items place ≠ of' then (g, false, 0, 0)
  else matchGoD g place (place - g.base).toNat its
def lineRec (i : Int) (x : Item) : Rcd := ⟨2, 0, 0, i, x, 0, 0, zeroM⟩
def Nd.put (n : Nd) (x : Item) : Nd × Bool :=
  if (matchD n.log n.lastP n.lastT [x]).2.2.2 ≠ 0 ∨ (matchD n.log n.lastP n.lastT [x]).2.1 = false ∨ (matchD n.log n.lastP n.lastT [x]).2.2.1 = 0 ∨ (n.write (lineRec (n.lastP + 1) x)).2 = false then (n, false)
  else ({ (n.write (lineRec (n.lastP + 1) x)).1 with log := (matchD n.log n.lastP n.lastT [x]).1 }, true)
def Nd.time (n : Nd) : Int := match n.log.items.getLast? with
  | some x => maxI (maxI n.clock n.mach.sto.now) x.time
  | none => maxI n.clock n.mach.sto.now
def nopItem (term time : Int) : Item := ⟨term, time, true, 0, 0, 0, ⟨#[]⟩, ⟨#[]⟩, ⟨#[]⟩, 0⟩
def callItem (term time : Int) (c : Cal) : Item := ⟨term, time, false, c.client, c.seq, c.cmd.kind, c.cmd.key, c.cmd.field, c.cmd.text, c.cmd.n⟩
def Item.cal (x : Item) : Cal := ⟨x.client, x.seq, ⟨x.k, x.key, x.field, x.text, x.n⟩⟩
def Nd.nx (n : Nd) (i : Int) : Int := if i = 0 then n.x0 else if i = 1 then n.x1 else n.x2
def Nd.mt (n : Nd) (i : Int) : Int := if i = 0 then n.m0 else if i = 1 then n.m1 else n.m2
def Nd.setNx (n : Nd) (i v : Int) : Nd := if i = 0 then { n with x0 := v } else if i = 1 then { n with x1 := v } else { n with x2 := v }
def Nd.setMt (n : Nd) (i v : Int) : Nd := if i = 0 then { n with m0 := v } else if i = 1 then { n with m1 := v } else { n with m2 := v }
def Nd.setV (n : Nd) (i : Int) : Nd := if i = 0 then { n with v0 := true } else if i = 1 then { n with v1 := true } else { n with v2 := true }
def Nd.heapMsg (n : Nd) (to : Int) : Msg :=
  if n.nx to - 1 < n.log.base then { zMsg with kind := 7, term := n.term, sidx := n.sidx, sterm := n.sterm, mach := n.smach }
  else { zMsg with kind := 5, term := n.term, last := n.nx to - 1, lt := termAt n.log.base n.log.bt n.log.items (n.nx to - 1), items := (if termErr n.log.base n.log.items.length (n.nx to - 1) = 0 then behind n.log.base n.log.items (n.nx to - 1) 8 else []), commit := n.commit }
def Nd.heapTo (n : Nd) (to : Int) : Nd := if to = n.me then n else n.send to (n.heapMsg to)
def Nd.heap (n : Nd) : Nd := ((n.heapTo 0).heapTo 1).heapTo 2
def Nd.leadN (n : Nd) : Nd := ({ n with role := 3, x0 := n.lastP + 1, x1 := n.lastP + 1, x2 := n.lastP + 1, m0 := 0, m1 := 0, m2 := 0 })
def Nd.leadP (n : Nd) : Nd := (n.leadN.put (nopItem n.term n.leadN.time)).1.heap
def Nd.standB (n : Nd) : Nd := ({ n with role := 2 }.alone).tell { zMsg with kind := 3, term := n.term, last := n.lastP, lt := n.lastT }
def Nd.stand (n : Nd) : Nd := if n.term = 1048576 ∨ (n.mark (n.term + 1) n.me).2 = false then n else (n.mark (n.term + 1) n.me).1.standB
def waitTold (n : Nd) (place term : Int) (r : Rep) : List Tol := (n.waits.filter fun w => w.place == place && w.term == term).map fun w => ⟨n.me, w.call, r⟩
def Nd.doStep (n : Nd) : Nd × List Tol :=
  match n.log.items[(n.commit + 1 - n.log.base - 1).toNat]? with
  | none => (n, [])
  | some x => if x.nop then ({ n with commit := n.commit + 1 }, waitTold n (n.commit + 1) x.term ⟨0, ⟨#[]⟩, 0, []⟩)
    else ({ n with commit := n.commit + 1, mach := (DoM n.mach x.time x.cal).1 }, waitTold n (n.commit + 1) x.term (DoM n.mach x.time x.cal).2.1)
def doGo : Nat → Nd → Nd × List Tol
  | 0, n => (n, [])
  | k + 1, n => ((doGo k n.doStep.1).1, n.doStep.2 ++ (doGo k n.doStep.1).2)
def Nd.done (n : Nd) (place : Int) : Nd × List Tol := doGo (place - n.commit).toNat n
def Nd.count (n : Nd) (place : Int) : Int := 1 + (if n.me ≠ 0 ∧ place ≤ n.m0 then 1 else 0) + (if n.me ≠ 1 ∧ place ≤ n.m1 then 1 else 0) + (if n.me ≠ 2 ∧ place ≤ n.m2 then 1 else 0)
def Nd.okPlace (n : Nd) (place : Int) : Bool := decide (2 ≤ n.count place) && (termAt n.log.base n.log.bt n.log.items place == n.term)
def agreeGo (n : Nd) : Nat → Option Int
  | 0 => none
  | k + 1 => if n.okPlace (n.commit + (k + 1 : Nat)) then some (n.commit + (k + 1 : Nat)) else agreeGo n k
def Nd.agreed (n : Nd) : Nd × List Tol := match agreeGo n (n.lastP - n.commit).toNat with
  | some p => n.done p
  | none => (n, [])
def ackMsg (term last : Int) (yes : Bool) : Msg := { zMsg with kind := 6, term := term, yes := yes, last := last }
def writeAll (n : Nd) (i : Int) : List Item → Option Nd
  | [] => some n
  | x :: l => if (n.write (lineRec i x)).2 then writeAll (n.write (lineRec i x)).1 (i + 1) l else none
def Nd.pileB (n : Nd) (m : Msg) : Nd × List Tol := (n.send m.fr (ackMsg n.term (m.last + m.items.length) true)).done (if m.last + m.items.length < m.commit then m.last + m.items.length else m.commit)
def Nd.pile (n : Nd) (m : Msg) : Nd × List Tol :=
  if (matchD n.log m.last m.lt m.items).2.2.2 ≠ 0 then (n, [])
  else if (matchD n.log m.last m.lt m.items).2.1 = false then (n.send m.fr (ackMsg n.term n.commit false), [])
  else if 0 < (matchD n.log m.last m.lt m.items).2.2.1 then
    match writeAll n (matchD n.log m.last m.lt m.items).2.2.1 ((matchD n.log m.last m.lt m.items).1.items.drop ((matchD n.log m.last m.lt m.items).2.2.1 - (matchD n.log m.last m.lt m.items).1.base - 1).toNat) with
    | none => (n, [])
    | some n' => { n' with log := (matchD n.log m.last m.lt m.items).1 }.pileB m
  else n.pileB m
def Nd.loadB (n : Nd) (log : Lg) (m : Msg) : Nd := { n with log := log, sidx := m.sidx, sterm := m.sterm, smach := m.mach, mach := m.mach, commit := m.sidx }
def Nd.shipB (n : Nd) (m : Msg) : Nd := n.send m.fr (ackMsg n.term m.sidx true)
def Nd.ship (n : Nd) (m : Msg) : Nd :=
  if n.commit < m.sidx then
    if (n.write (loadRc m.sidx m.sterm m.mach)).2 = false then n
    else ((n.write (loadRc m.sidx m.sterm m.mach)).1.loadB (restD n.log m.sidx m.sterm) m).shipB m
  else n.shipB m
def Nd.ack (n : Nd) (m : Msg) : Nd × List Tol :=
  if m.yes then ((n.setMt m.fr (maxI (n.mt m.fr) m.last)).setNx m.fr (maxI (n.nx m.fr) (m.last + 1))).agreed
  else (n.setNx m.fr (maxI (n.mt m.fr) m.last + 1), [])
def Nd.newer (n : Nd) (last lt : Int) : Bool := decide (n.lastT < lt) || (lt == n.lastT && decide (n.lastP ≤ last))
def Nd.pre (n : Nd) (m : Msg) : Nd := if n.newer m.last m.lt && decide (n.term < m.term) then n.send m.fr { zMsg with kind := 2, term := m.term } else n.refuse m.fr
def Nd.voteB (n : Nd) (m : Msg) : Nd := n.send m.fr { zMsg with kind := 4, term := n.term }
def Nd.ballot (n : Nd) (m : Msg) : Nd :=
  if n.newer m.last m.lt = false ∨ (0 ≤ n.vote ∧ n.vote ≠ m.fr) then n.refuse m.fr
  else if n.vote < 0 then (if (n.mark n.term m.fr).2 = false then n.refuse m.fr else (n.mark n.term m.fr).1.voteB m)
  else n.voteB m
def Nd.come1 (n : Nd) (m : Msg) : Nd × List Tol × Bool :=
  if m.kind = 1 then (n.pre m, [], false)
  else if m.kind = 2 then
    if n.role = 1 ∧ m.term = n.term + 1 then (if (n.setV m.fr).many then ((n.setV m.fr).stand, [], false) else (n.setV m.fr, [], false)) else (n, [], false)
  else if m.term < n.term then (if m.kind ≠ 8 then n.refuse m.fr else n, [], false)
  else if m.kind = 3 then (n.ballot m, [], false)
  else if m.kind = 4 then
    if n.role = 2 then (if (n.setV m.fr).many then ((n.setV m.fr).leadP, [], true) else (n.setV m.fr, [], false)) else (n, [], false)
  else if m.kind = 5 then ((n.hear.pile m).1, (n.hear.pile m).2, false)
  else if m.kind = 7 then (n.hear.ship m, [], false)
  else if m.kind = 6 then (if n.role = 3 then ((n.ack m).1, (n.ack m).2, false) else (n, [], false))
  else (n, [], false)
def Nd.come (n : Nd) (m : Msg) : Nd × List Tol × Bool :=
  if n.up = false then (n, [], false)
  else if m.kind ≠ 1 ∧ m.kind ≠ 2 ∧ n.term < m.term then
    if (n.mark m.term (-1)).2 = false then (n, [], false) else (n.mark m.term (-1)).1.follow.come1 m
  else n.come1 m
def Crw.come (c : Crw) (m : Msg) : Crw :=
  let n := c.nd m.to.toNat
  let q := n.come m
  let c' := c.set m.to.toNat q.1
  { c' with told := c.told ++ q.2.1, led := if q.2.2 then c.led ++ [(q.1.term, q.1.me)] else c.led }
structure Act where
  kind : Int
  node : Int
  pick : Int
  call : Cal
def Act.c (a : Act) : List C := [iC a.kind, iC a.node, iC a.pick, iC a.call.client, iC a.call.seq, iC a.call.cmd.kind, sC a.call.cmd.key, sC a.call.cmd.field, sC a.call.cmd.text, iC a.call.cmd.n]
def Act.row (a : Act) : List V := [iL a.kind, iL a.node, iL a.pick, iL a.call.client, iL a.call.seq, iL a.call.cmd.kind, sL a.call.cmd.key, sL a.call.cmd.field, sL a.call.cmd.text, iL a.call.cmd.n]
def tolE (n : Nd) (c : Cal) (e : Int) : Tol := ⟨n.me, c, failR e⟩
def Nd.waitB (n : Nd) (c : Cal) : Nd := { n with waits := n.waits ++ [⟨n.lastP, n.term, c⟩] }
def Nd.ask (n : Nd) (c : Cal) : Nd × List Tol :=
  if n.up = false then (n, [tolE n c 13])
  else if n.role ≠ 3 then (n, [tolE n c 12])
  else if (n.put (callItem n.term n.time c)).2 = false then ((n.put (callItem n.term n.time c)).1, [tolE n c 6])
  else ((n.put (callItem n.term n.time c)).1.waitB c, [])
def Nd.trim (n : Nd) : Nd :=
  if n.commit = n.log.base then n
  else if (n.write (loadRc n.commit (termAt n.log.base n.log.bt n.log.items n.commit) n.mach)).2 = false then n
  else { (n.write (loadRc n.commit (termAt n.log.base n.log.bt n.log.items n.commit) n.mach)).1 with sidx := n.commit, sterm := termAt n.log.base n.log.bt n.log.items n.commit, smach := n.mach, log := ⟨n.commit, termAt n.log.base n.log.bt n.log.items n.commit, n.log.items.drop (n.commit - n.log.base).toNat⟩ }
def freshN (me : Int) (d : Dsk) : Nd := ⟨me, false, 0, 0, d.term, d.fr, d.log, d.sidx, d.sterm, d.mach, d.mach, d.sidx, false, false, false, 0, 0, 0, 0, 0, 0, [], [], 0, []⟩
def Nd.crash (n : Nd) (keep : Int) : Nd :=
  { freshN n.me (foldD (recB (n.td.take (crashN n.td n.ts keep))).1).1 with td := (n.td.take (crashN n.td n.ts keep)).take (recB (n.td.take (crashN n.td n.ts keep))).2, ts := (recB (n.td.take (crashN n.td n.ts keep))).2, clock := n.clock }
def putAway : List Msg → List Msg → List Msg
  | a, [] => a
  | a, m :: l => putAway (if a.length < 300 then a ++ [m] else a) l
def Nd.standAct (n : Nd) : Nd := if n.role ≠ 3 ∧ n.term < 1048576 then ({ n with role := 1 }.alone).tell { zMsg with kind := 1, term := n.term + 1, last := n.lastP, lt := n.lastT } else n
def Crw.act (c : Crw) (a : Act) : Crw :=
  let n := c.nd a.node.toNat
  if a.kind = 2 then c.set a.node.toNat n.standAct
  else if a.kind = 3 then (if n.role = 3 then c.set a.node.toNat n.heap else c)
  else if a.kind = 4 then { c.set a.node.toNat { n with ts := n.td.length, out := [] } with away := putAway c.away n.out }
  else if a.kind = 9 then c.set a.node.toNat (n.crash a.pick)
  else if a.kind = 11 then c.set a.node.toNat n.trim
  else c
def Crw.comes (c : Crw) (l : List Msg) : Crw := l.foldl Crw.come c
def Crw.pick (c : Crw) (a : Act) : Nat := (a.pick % (c.away.length : Int)).toNat
def Crw.do (c : Crw) (a : Act) : Crw :=
  let n := c.nd a.node.toNat
  if a.kind = 1 then { c.set a.node.toNat (n.ask a.call).1 with told := c.told ++ (n.ask a.call).2 }
  else if a.kind = 5 then c.set a.node.toNat { n with clock := if n.clock + a.pick < 1073741824 then n.clock + a.pick else 1073741824 }
  else if a.kind = 10 then c.set a.node.toNat { n with up := true }
  else if a.kind = 6 ∨ a.kind = 7 then
    match c.away[c.pick a]? with
    | none => c
    | some m => if a.kind = 6 then { c with away := c.away.eraseIdx (c.pick a) }.come m else { c with away := c.away.eraseIdx (c.pick a) }
  else if a.kind = 8 then
    match c.away[c.pick a]? with
    | none => c
    | some m => if c.away.length < 300 then { c with away := c.away ++ [m] } else c
  else if a.kind = 12 then { c with away := [] }.comes c.away
  else if n.up then c.act a else c
end Go.Proofs.YtkkleopmambcnaaGreatDoor
set_option linter.unusedVariables false
set_option linter.unusedSimpArgs false
set_option maxRecDepth 100000
set_option maxHeartbeats 8000000
namespace Go.Proofs.YtkkleopmambcnaaGreatDoor
open Go Go.RowKit Go.Proofs.AE
variable {G : Nat → AV}
def hasN (k : Int) : Bool := !(k == 6 || k == 7 || k == 8 || k == 12)
def hasP (k : Int) : Bool := k == 5 || k == 6 || k == 7 || k == 8 || k == 9
theorem has_c (k : Int) : PCall Tryz.prog G 55 [iV k] (.tup [bV (hasN k), bV (hasP k)]) := by
  refine pcallc mixed Tryz.func55 ac_lines_has ?_
  repeat' (first | (with_reducible first | refine Cn (fun h => ?_) fun h => ?_ | refine And.intro ?_ ?_ | refine wR ?_ | exact wr _ _ | refine wa ?_ | apply awp_join) | (with_reducible refine CallZ.z ?_) | simp -dsimp [go_sem])
  all_goals simp_all [hasN, hasP]
def noCal (c : Cal) : Bool := noCall c.client c.seq c.cmd.kind c.cmd.key c.cmd.field c.cmd.text c.cmd.n
def Act.check (a : Act) : Int :=
  if a.kind < 1 ∨ 12 < a.kind then 3
  else if hasN a.kind = true ∧ (a.node < 0 ∨ 3 ≤ a.node) ∨ hasP a.kind = true ∧ (a.pick < 0 ∨ 400000 < a.pick) then 2
  else if hasN a.kind = false ∧ a.node ≠ 0 ∨ hasP a.kind = false ∧ a.pick ≠ 0 ∨ a.kind ≠ 1 ∧ noCal a.call = false then 8
  else if a.kind = 1 then checkCl a.call else 0
theorem checkA_c (a : Act) : PCall Tryz.prog G 34 [.agg a.c] (iV a.check) := by
  obtain ⟨k, nd, pick, ⟨cl, sq, ⟨ck, key, fd, tx, n⟩⟩⟩ := a
  have hh := has_c (G := G) k
  have hc := checkCl_c (G := G) ⟨cl, sq, ⟨ck, key, fd, tx, n⟩⟩
  simp only [Act.c, Act.check, Cal.c, noCal, noCall] at hc ⊢
  generalize hasN k = N at *
  generalize hasP k = P at *
  generalize checkCl ⟨cl, sq, ⟨ck, key, fd, tx, n⟩⟩ = r at *
  cases N <;> cases P
  all_goals
    refine pcallc mixed Tryz.func34 ac_lines_Check ?_
    repeat' (first | (with_reducible first | refine Cn (fun h => ?_) fun h => ?_ | refine And.intro ?_ ?_ | refine wR ?_ | exact wr _ _ | refine wa ?_ | apply awp_join | refine q hh ?_ | refine qd hh ?_ | refine qz hh ?_ | refine q hc ?_ | refine qd hc ?_ | refine qz hc ?_) | (with_reducible refine CallZ.z ?_) | simp -dsimp [go_sem])
  all_goals clear hh hc
  all_goals try simp_all
  all_goals ((repeat' split) <;> first | rfl | omega | (exfalso; simp_all; done) | (exfalso; simp_all; omega) | trace_state)
end Go.Proofs.YtkkleopmambcnaaGreatDoor
set_option linter.unusedVariables false
set_option linter.unusedSimpArgs false
set_option maxRecDepth 100000
set_option maxHeartbeats 8000000
namespace Go.Proofs.YtkkleopmambcnaaGreatDoor
open Go Go.RowKit Go.Proofs.AE
variable {G : Nat → AV}
structure Gear where
  kind : Int
  a : Int
  b : Int
  raw : Raw
def Gear.c (g : Gear) : List C := [iC g.kind, iC g.a, iC g.b, iC g.raw.kind, iC g.raw.key, iC g.raw.field, iC g.raw.n, sC g.raw.text]
def Gear.row (g : Gear) : List V := [iL g.kind, iL g.a, iL g.b, iL g.raw.kind, iL g.raw.key, iL g.raw.field, iL g.raw.n, sL g.raw.text]
structure Gear.Ok (g : Gear) : Prop where
  kind : i64 g.kind
  a : i64 g.a
  b : i64 g.b
  raw : g.raw.Ok
theorem gear_wt {vs : List V} (h : WT Tryz.prog 4 83 vs) : ∃ g : Gear, vs = g.row ∧ g.Ok := by
  obtain ⟨hl, hf⟩ := WT_struct ti83 rfl h
  obtain ⟨j0, e0, r0⟩ := hf (3, 0) (by simp)
  obtain ⟨j1, e1, r1⟩ := hf (3, 1) (by simp)
  obtain ⟨j2, e2, r2⟩ := hf (3, 2) (by simp)
  obtain ⟨j3, e3, r3⟩ := hf (81, 3) (by simp)
  rw [ti3] at e0 e1 e2
  rw [ti81] at e3
  cases e0; cases e1; cases e2; cases e3
  obtain ⟨a, b, c, d, s, q, k1, k2, k3, k4, k5⟩ := raw_wt r3
  simp [WT, ti3] at r0 r1 r2
  obtain ⟨x, hx, wx⟩ := r0
  obtain ⟨y, hy, wy⟩ := r1
  obtain ⟨z, hz, wz⟩ := r2
  match vs, hl with
  | [v0, v1, v2, v3, v4, v5, v6, v7], _ =>
    simp at hx hy hz q
    obtain ⟨rfl, rfl, rfl, rfl, rfl⟩ := q
    subst hx hy hz
    exact ⟨⟨x, y, z, ⟨a, b, c, d, s⟩⟩, rfl, wf_i64 wx, wf_i64 wy, wf_i64 wz, k1, k2, k3, k4⟩
theorem gears_of : ∀ (rows : List (List V)), (∀ r ∈ rows, WT Tryz.prog 4 83 r) → ∃ gs : List Gear, rows = gs.map Gear.row ∧ ∀ g ∈ gs, g.Ok
  | [], _ => ⟨[], rfl, fun d h => by cases h⟩
  | r :: rows, h => by
    obtain ⟨gs, h1, h2⟩ := gears_of rows fun r hr => h r (List.mem_cons_of_mem _ hr)
    obtain ⟨g, rfl, hg⟩ := gear_wt (h r (List.mem_cons_self ..))
    refine ⟨g :: gs, by rw [h1]; rfl, fun x hx => ?_⟩
    rcases List.mem_cons.1 hx with rfl | hx
    · exact hg
    · exact h2 x hx
def zCal : Cal := ⟨0, 0, ⟨0, ⟨#[]⟩, ⟨#[]⟩, ⟨#[]⟩, 0⟩⟩
def Gear.call (g : Gear) : Cal := if pk g.b 4 = 0 then zCal else ⟨pk g.b 4, 1 + pk g.a 4, cmdR g.raw⟩
theorem picked'_c (n m : Int) (hn : i64 n) (hm : m ≠ 0) : PCall Tryz.prog G 16 [iV n, iV m] (iV (pk n m)) := by
  have h := picked_c (G := G) n m hn hm
  refine pcallc mixed Tryz.func16 ac_rostrumkeep_Picked ?_
  repeat' (first | (with_reducible first | refine Cn (fun h => ?_) fun h => ?_ | refine And.intro ?_ ?_ | refine wR ?_ | exact wr _ _ | refine wa ?_ | apply awp_join | refine q h ?_ | refine qd h ?_ | refine qz h ?_) | (with_reducible refine CallZ.z ?_) | simp -dsimp [go_sem])
  all_goals trace_state
theorem gcall_c (g : Gear) (h : g.Ok) : PCall Tryz.prog G 54 [.agg g.c] (.agg g.call.c) := by
  have p1 := picked'_c (G := G) g.b 4 h.b (by omega)
  have p2 := picked'_c (G := G) g.a 4 h.a (by omega)
  have pr := pk_range (n := g.a) (m := 4) (by omega)
  have w1 : IntKind.i64.wrap (1 + pk g.a 4) = 1 + pk g.a 4 := IntWalk.i64_in _ (by omega)
  have hr := commandR_c (G := G) g.raw h.raw
  unfold Gear.call
  obtain ⟨cc, hcc⟩ : ∃ cc, cmdR g.raw = cc := ⟨_, rfl⟩
  rw [hcc] at hr ⊢
  obtain ⟨ck, ca, cb, cd, cn⟩ := cc
  by_cases h0 : pk g.b 4 = 0
  · rw [if_pos h0]
    rw [h0] at p1
    simp only [Gear.c, zCal, Cal.c]
    refine pcallc mixed Tryz.func54 ac_rostrumtop_call ?_
    repeat' (first | (with_reducible first | refine Cn (fun h => ?_) fun h => ?_ | refine And.intro ?_ ?_ | refine wR ?_ | exact wr _ _ | refine wa ?_ | apply awp_join | refine q p1 ?_ | refine qd p1 ?_ | refine qz p1 ?_) | (with_reducible refine CallZ.z ?_) | simp -dsimp [go_sem])
    all_goals trace_state
  · rw [if_neg h0]
    have q0 : (pk g.b 4 == 0) = false := by simpa using h0
    simp only [Gear.c, Cal.c, Cmd.c] at hr ⊢
    generalize pk g.b 4 = B at *
    generalize pk g.a 4 = A at *
    refine pcallc mixed Tryz.func54 ac_rostrumtop_call ?_
    repeat' (first | (with_reducible first | refine Cn (fun h => ?_) fun h => ?_ | refine And.intro ?_ ?_ | refine wR ?_ | exact wr _ _ | refine wa ?_ | apply awp_join | refine q p1 ?_ | refine qd p1 ?_ | refine qz p1 ?_ | refine q p2 ?_ | refine qd p2 ?_ | refine qz p2 ?_ | refine q hr ?_ | refine qd hr ?_ | refine qz hr ?_) | (with_reducible refine CallZ.z ?_) | simp -dsimp [go_sem, w1, q0])
    all_goals trace_state
def actK (k : Int) (g : Gear) : Act :=
  let n := pk g.a 3
  if k ≤ 2 then ⟨1, n, 0, g.call⟩
  else if k ≤ 4 then ⟨2, n, 0, zCal⟩
  else if k ≤ 7 then ⟨3, n, 0, zCal⟩
  else if k ≤ 11 then ⟨4, n, 0, zCal⟩
  else if k = 12 then ⟨6, 0, pk g.b 300, zCal⟩
  else if k = 13 then ⟨7, 0, pk g.b 300, zCal⟩
  else if k = 14 then ⟨8, 0, pk g.b 300, zCal⟩
  else if k = 15 then ⟨9, n, pk g.b 500, zCal⟩
  else if k = 16 then ⟨10, n, 0, zCal⟩
  else if k = 17 then ⟨11, n, 0, zCal⟩
  else if k = 18 then ⟨5, n, pk g.b 40, zCal⟩
  else ⟨12, 0, 0, zCal⟩
def Gear.act (g : Gear) : Act := actK (pk g.kind 20) g
theorem act0_c (g : Gear) (h : g.Ok) (hk : pk g.kind 20 = 0) : PCall Tryz.prog G 29 [.agg g.c] (.agg g.act.c) := by
  have p0 := picked'_c (G := G) g.kind 20 h.kind (by omega)
  have p1 := picked'_c (G := G) g.a 3 h.a (by omega)
  have p2 := picked'_c (G := G) g.b 300 h.b (by omega)
  have p3 := picked'_c (G := G) g.b 500 h.b (by omega)
  have p4 := picked'_c (G := G) g.b 40 h.b (by omega)
  have hc := gcall_c (G := G) g h
  unfold Gear.act
  rw [hk] at p0 ⊢
  simp only [actK, zCal, Gear.c, Act.c, Cal.c] at hc ⊢
  generalize g.call = C at *
  obtain ⟨cl, sq, ⟨ck, ca, cb, cd, cn⟩⟩ := C
  generalize pk g.a 3 = A at *
  generalize pk g.b 300 = B at *
  generalize pk g.b 500 = B5 at *
  generalize pk g.b 40 = B4 at *
  refine pcallc mixed Tryz.func29 ac_rostrumtop_act ?_
  repeat' (first | (with_reducible first | refine Cn (fun h => ?_) fun h => ?_ | refine And.intro ?_ ?_ | refine wR ?_ | exact wr _ _ | refine wa ?_ | apply awp_join | refine q p0 ?_ | refine qd p0 ?_ | refine qz p0 ?_ | refine q p1 ?_ | refine qd p1 ?_ | refine qz p1 ?_ | refine q p2 ?_ | refine qd p2 ?_ | refine qz p2 ?_ | refine q p3 ?_ | refine qd p3 ?_ | refine qz p3 ?_ | refine q p4 ?_ | refine qd p4 ?_ | refine qz p4 ?_ | refine q hc ?_ | refine qd hc ?_ | refine qz hc ?_) | (with_reducible refine CallZ.z ?_) | simp -dsimp [go_sem])
  all_goals trace_state
theorem act1_c (g : Gear) (h : g.Ok) (hk : pk g.kind 20 = 1) : PCall Tryz.prog G 29 [.agg g.c] (.agg g.act.c) := by
  have p0 := picked'_c (G := G) g.kind 20 h.kind (by omega)
  have p1 := picked'_c (G := G) g.a 3 h.a (by omega)
  have p2 := picked'_c (G := G) g.b 300 h.b (by omega)
  have p3 := picked'_c (G := G) g.b 500 h.b (by omega)
  have p4 := picked'_c (G := G) g.b 40 h.b (by omega)
  have hc := gcall_c (G := G) g h
  unfold Gear.act
  rw [hk] at p0 ⊢
  simp only [actK, zCal, Gear.c, Act.c, Cal.c] at hc ⊢
  generalize g.call = C at *
  obtain ⟨cl, sq, ⟨ck, ca, cb, cd, cn⟩⟩ := C
  generalize pk g.a 3 = A at *
  generalize pk g.b 300 = B at *
  generalize pk g.b 500 = B5 at *
  generalize pk g.b 40 = B4 at *
  refine pcallc mixed Tryz.func29 ac_rostrumtop_act ?_
  repeat' (first | (with_reducible first | refine Cn (fun h => ?_) fun h => ?_ | refine And.intro ?_ ?_ | refine wR ?_ | exact wr _ _ | refine wa ?_ | apply awp_join | refine q p0 ?_ | refine qd p0 ?_ | refine qz p0 ?_ | refine q p1 ?_ | refine qd p1 ?_ | refine qz p1 ?_ | refine q p2 ?_ | refine qd p2 ?_ | refine qz p2 ?_ | refine q p3 ?_ | refine qd p3 ?_ | refine qz p3 ?_ | refine q p4 ?_ | refine qd p4 ?_ | refine qz p4 ?_ | refine q hc ?_ | refine qd hc ?_ | refine qz hc ?_) | (with_reducible refine CallZ.z ?_) | simp -dsimp [go_sem])
  all_goals trace_state
theorem act2_c (g : Gear) (h : g.Ok) (hk : pk g.kind 20 = 2) : PCall Tryz.prog G 29 [.agg g.c] (.agg g.act.c) := by
  have p0 := picked'_c (G := G) g.kind 20 h.kind (by omega)
  have p1 := picked'_c (G := G) g.a 3 h.a (by omega)
  have p2 := picked'_c (G := G) g.b 300 h.b (by omega)
  have p3 := picked'_c (G := G) g.b 500 h.b (by omega)
  have p4 := picked'_c (G := G) g.b 40 h.b (by omega)
  have hc := gcall_c (G := G) g h
  unfold Gear.act
  rw [hk] at p0 ⊢
  simp only [actK, zCal, Gear.c, Act.c, Cal.c] at hc ⊢
  generalize g.call = C at *
  obtain ⟨cl, sq, ⟨ck, ca, cb, cd, cn⟩⟩ := C
  generalize pk g.a 3 = A at *
  generalize pk g.b 300 = B at *
  generalize pk g.b 500 = B5 at *
  generalize pk g.b 40 = B4 at *
  refine pcallc mixed Tryz.func29 ac_rostrumtop_act ?_
  repeat' (first | (with_reducible first | refine Cn (fun h => ?_) fun h => ?_ | refine And.intro ?_ ?_ | refine wR ?_ | exact wr _ _ | refine wa ?_ | apply awp_join | refine q p0 ?_ | refine qd p0 ?_ | refine qz p0 ?_ | refine q p1 ?_ | refine qd p1 ?_ | refine qz p1 ?_ | refine q p2 ?_ | refine qd p2 ?_ | refine qz p2 ?_ | refine q p3 ?_ | refine qd p3 ?_ | refine qz p3 ?_ | refine q p4 ?_ | refine qd p4 ?_ | refine qz p4 ?_ | refine q hc ?_ | refine qd hc ?_ | refine qz hc ?_) | (with_reducible refine CallZ.z ?_) | simp -dsimp [go_sem])
  all_goals trace_state
theorem act3_c (g : Gear) (h : g.Ok) (hk : pk g.kind 20 = 3) : PCall Tryz.prog G 29 [.agg g.c] (.agg g.act.c) := by
  have p0 := picked'_c (G := G) g.kind 20 h.kind (by omega)
  have p1 := picked'_c (G := G) g.a 3 h.a (by omega)
  have p2 := picked'_c (G := G) g.b 300 h.b (by omega)
  have p3 := picked'_c (G := G) g.b 500 h.b (by omega)
  have p4 := picked'_c (G := G) g.b 40 h.b (by omega)
  have hc := gcall_c (G := G) g h
  unfold Gear.act
  rw [hk] at p0 ⊢
  simp only [actK, zCal, Gear.c, Act.c, Cal.c] at hc ⊢
  generalize g.call = C at *
  obtain ⟨cl, sq, ⟨ck, ca, cb, cd, cn⟩⟩ := C
  generalize pk g.a 3 = A at *
  generalize pk g.b 300 = B at *
  generalize pk g.b 500 = B5 at *
  generalize pk g.b 40 = B4 at *
  refine pcallc mixed Tryz.func29 ac_rostrumtop_act ?_
  repeat' (first | (with_reducible first | refine Cn (fun h => ?_) fun h => ?_ | refine And.intro ?_ ?_ | refine wR ?_ | exact wr _ _ | refine wa ?_ | apply awp_join | refine q p0 ?_ | refine qd p0 ?_ | refine qz p0 ?_ | refine q p1 ?_ | refine qd p1 ?_ | refine qz p1 ?_ | refine q p2 ?_ | refine qd p2 ?_ | refine qz p2 ?_ | refine q p3 ?_ | refine qd p3 ?_ | refine qz p3 ?_ | refine q p4 ?_ | refine qd p4 ?_ | refine qz p4 ?_ | refine q hc ?_ | refine qd hc ?_ | refine qz hc ?_) | (with_reducible refine CallZ.z ?_) | simp -dsimp [go_sem])
  all_goals trace_state
theorem act4_c (g : Gear) (h : g.Ok) (hk : pk g.kind 20 = 4) : PCall Tryz.prog G 29 [.agg g.c] (.agg g.act.c) := by
  have p0 := picked'_c (G := G) g.kind 20 h.kind (by omega)
  have p1 := picked'_c (G := G) g.a 3 h.a (by omega)
  have p2 := picked'_c (G := G) g.b 300 h.b (by omega)
  have p3 := picked'_c (G := G) g.b 500 h.b (by omega)
  have p4 := picked'_c (G := G) g.b 40 h.b (by omega)
  have hc := gcall_c (G := G) g h
  unfold Gear.act
  rw [hk] at p0 ⊢
  simp only [actK, zCal, Gear.c, Act.c, Cal.c] at hc ⊢
  generalize g.call = C at *
  obtain ⟨cl, sq, ⟨ck, ca, cb, cd, cn⟩⟩ := C
  generalize pk g.a 3 = A at *
  generalize pk g.b 300 = B at *
  generalize pk g.b 500 = B5 at *
  generalize pk g.b 40 = B4 at *
  refine pcallc mixed Tryz.func29 ac_rostrumtop_act ?_
  repeat' (first | (with_reducible first | refine Cn (fun h => ?_) fun h => ?_ | refine And.intro ?_ ?_ | refine wR ?_ | exact wr _ _ | refine wa ?_ | apply awp_join | refine q p0 ?_ | refine qd p0 ?_ | refine qz p0 ?_ | refine q p1 ?_ | refine qd p1 ?_ | refine qz p1 ?_ | refine q p2 ?_ | refine qd p2 ?_ | refine qz p2 ?_ | refine q p3 ?_ | refine qd p3 ?_ | refine qz p3 ?_ | refine q p4 ?_ | refine qd p4 ?_ | refine qz p4 ?_ | refine q hc ?_ | refine qd hc ?_ | refine qz hc ?_) | (with_reducible refine CallZ.z ?_) | simp -dsimp [go_sem])
  all_goals trace_state
theorem act5_c (g : Gear) (h : g.Ok) (hk : pk g.kind 20 = 5) : PCall Tryz.prog G 29 [.agg g.c] (.agg g.act.c) := by
  have p0 := picked'_c (G := G) g.kind 20 h.kind (by omega)
  have p1 := picked'_c (G := G) g.a 3 h.a (by omega)
  have p2 := picked'_c (G := G) g.b 300 h.b (by omega)
  have p3 := picked'_c (G := G) g.b 500 h.b (by omega)
  have p4 := picked'_c (G := G) g.b 40 h.b (by omega)
  have hc := gcall_c (G := G) g h
  unfold Gear.act
  rw [hk] at p0 ⊢
  simp only [actK, zCal, Gear.c, Act.c, Cal.c] at hc ⊢
  generalize g.call = C at *
  obtain ⟨cl, sq, ⟨ck, ca, cb, cd, cn⟩⟩ := C
  generalize pk g.a 3 = A at *
  generalize pk g.b 300 = B at *
  generalize pk g.b 500 = B5 at *
  generalize pk g.b 40 = B4 at *
  refine pcallc mixed Tryz.func29 ac_rostrumtop_act ?_
  repeat' (first | (with_reducible first | refine Cn (fun h => ?_) fun h => ?_ | refine And.intro ?_ ?_ | refine wR ?_ | exact wr _ _ | refine wa ?_ | apply awp_join | refine q p0 ?_ | refine qd p0 ?_ | refine qz p0 ?_ | refine q p1 ?_ | refine qd p1 ?_ | refine qz p1 ?_ | refine q p2 ?_ | refine qd p2 ?_ | refine qz p2 ?_ | refine q p3 ?_ | refine qd p3 ?_ | refine qz p3 ?_ | refine q p4 ?_ | refine qd p4 ?_ | refine qz p4 ?_ | refine q hc ?_ | refine qd hc ?_ | refine qz hc ?_) | (with_reducible refine CallZ.z ?_) | simp -dsimp [go_sem])
  all_goals trace_state
theorem act6_c (g : Gear) (h : g.Ok) (hk : pk g.kind 20 = 6) : PCall Tryz.prog G 29 [.agg g.c] (.agg g.act.c) := by
  have p0 := picked'_c (G := G) g.kind 20 h.kind (by omega)
  have p1 := picked'_c (G := G) g.a 3 h.a (by omega)
  have p2 := picked'_c (G := G) g.b 300 h.b (by omega)
  have p3 := picked'_c (G := G) g.b 500 h.b (by omega)
  have p4 := picked'_c (G := G) g.b 40 h.b (by omega)
  have hc := gcall_c (G := G) g h
  unfold Gear.act
  rw [hk] at p0 ⊢
  simp only [actK, zCal, Gear.c, Act.c, Cal.c] at hc ⊢
  generalize g.call = C at *
  obtain ⟨cl, sq, ⟨ck, ca, cb, cd, cn⟩⟩ := C
  generalize pk g.a 3 = A at *
  generalize pk g.b 300 = B at *
  generalize pk g.b 500 = B5 at *
  generalize pk g.b 40 = B4 at *
  refine pcallc mixed Tryz.func29 ac_rostrumtop_act ?_
  repeat' (first | (with_reducible first | refine Cn (fun h => ?_) fun h => ?_ | refine And.intro ?_ ?_ | refine wR ?_ | exact wr _ _ | refine wa ?_ | apply awp_join | refine q p0 ?_ | refine qd p0 ?_ | refine qz p0 ?_ | refine q p1 ?_ | refine qd p1 ?_ | refine qz p1 ?_ | refine q p2 ?_ | refine qd p2 ?_ | refine qz p2 ?_ | refine q p3 ?_ | refine qd p3 ?_ | refine qz p3 ?_ | refine q p4 ?_ | refine qd p4 ?_ | refine qz p4 ?_ | refine q hc ?_ | refine qd hc ?_ | refine qz hc ?_) | (with_reducible refine CallZ.z ?_) | simp -dsimp [go_sem])
  all_goals trace_state
theorem act7_c (g : Gear) (h : g.Ok) (hk : pk g.kind 20 = 7) : PCall Tryz.prog G 29 [.agg g.c] (.agg g.act.c) := by
  have p0 := picked'_c (G := G) g.kind 20 h.kind (by omega)
  have p1 := picked'_c (G := G) g.a 3 h.a (by omega)
  have p2 := picked'_c (G := G) g.b 300 h.b (by omega)
  have p3 := picked'_c (G := G) g.b 500 h.b (by omega)
  have p4 := picked'_c (G := G) g.b 40 h.b (by omega)
  have hc := gcall_c (G := G) g h
  unfold Gear.act
  rw [hk] at p0 ⊢
  simp only [actK, zCal, Gear.c, Act.c, Cal.c] at hc ⊢
  generalize g.call = C at *
  obtain ⟨cl, sq, ⟨ck, ca, cb, cd, cn⟩⟩ := C
  generalize pk g.a 3 = A at *
  generalize pk g.b 300 = B at *
  generalize pk g.b 500 = B5 at *
  generalize pk g.b 40 = B4 at *
  refine pcallc mixed Tryz.func29 ac_rostrumtop_act ?_
  repeat' (first | (with_reducible first | refine Cn (fun h => ?_) fun h => ?_ | refine And.intro ?_ ?_ | refine wR ?_ | exact wr _ _ | refine wa ?_ | apply awp_join | refine q p0 ?_ | refine qd p0 ?_ | refine qz p0 ?_ | refine q p1 ?_ | refine qd p1 ?_ | refine qz p1 ?_ | refine q p2 ?_ | refine qd p2 ?_ | refine qz p2 ?_ | refine q p3 ?_ | refine qd p3 ?_ | refine qz p3 ?_ | refine q p4 ?_ | refine qd p4 ?_ | refine qz p4 ?_ | refine q hc ?_ | refine qd hc ?_ | refine qz hc ?_) | (with_reducible refine CallZ.z ?_) | simp -dsimp [go_sem])
  all_goals trace_state
theorem act8_c (g : Gear) (h : g.Ok) (hk : pk g.kind 20 = 8) : PCall Tryz.prog G 29 [.agg g.c] (.agg g.act.c) := by
  have p0 := picked'_c (G := G) g.kind 20 h.kind (by omega)
  have p1 := picked'_c (G := G) g.a 3 h.a (by omega)
  have p2 := picked'_c (G := G) g.b 300 h.b (by omega)
  have p3 := picked'_c (G := G) g.b 500 h.b (by omega)
  have p4 := picked'_c (G := G) g.b 40 h.b (by omega)
  have hc := gcall_c (G := G) g h
  unfold Gear.act
  rw [hk] at p0 ⊢
  simp only [actK, zCal, Gear.c, Act.c, Cal.c] at hc ⊢
  generalize g.call = C at *
  obtain ⟨cl, sq, ⟨ck, ca, cb, cd, cn⟩⟩ := C
  generalize pk g.a 3 = A at *
  generalize pk g.b 300 = B at *
  generalize pk g.b 500 = B5 at *
  generalize pk g.b 40 = B4 at *
  refine pcallc mixed Tryz.func29 ac_rostrumtop_act ?_
  repeat' (first | (with_reducible first | refine Cn (fun h => ?_) fun h => ?_ | refine And.intro ?_ ?_ | refine wR ?_ | exact wr _ _ | refine wa ?_ | apply awp_join | refine q p0 ?_ | refine qd p0 ?_ | refine qz p0 ?_ | refine q p1 ?_ | refine qd p1 ?_ | refine qz p1 ?_ | refine q p2 ?_ | refine qd p2 ?_ | refine qz p2 ?_ | refine q p3 ?_ | refine qd p3 ?_ | refine qz p3 ?_ | refine q p4 ?_ | refine qd p4 ?_ | refine qz p4 ?_ | refine q hc ?_ | refine qd hc ?_ | refine qz hc ?_) | (with_reducible refine CallZ.z ?_) | simp -dsimp [go_sem])
  all_goals trace_state
theorem act9_c (g : Gear) (h : g.Ok) (hk : pk g.kind 20 = 9) : PCall Tryz.prog G 29 [.agg g.c] (.agg g.act.c) := by
  have p0 := picked'_c (G := G) g.kind 20 h.kind (by omega)
  have p1 := picked'_c (G := G) g.a 3 h.a (by omega)
  have p2 := picked'_c (G := G) g.b 300 h.b (by omega)
  have p3 := picked'_c (G := G) g.b 500 h.b (by omega)
  have p4 := picked'_c (G := G) g.b 40 h.b (by omega)
  have hc := gcall_c (G := G) g h
  unfold Gear.act
  rw [hk] at p0 ⊢
  simp only [actK, zCal, Gear.c, Act.c, Cal.c] at hc ⊢
  generalize g.call = C at *
  obtain ⟨cl, sq, ⟨ck, ca, cb, cd, cn⟩⟩ := C
  generalize pk g.a 3 = A at *
  generalize pk g.b 300 = B at *
  generalize pk g.b 500 = B5 at *
  generalize pk g.b 40 = B4 at *
  refine pcallc mixed Tryz.func29 ac_rostrumtop_act ?_
  repeat' (first | (with_reducible first | refine Cn (fun h => ?_) fun h => ?_ | refine And.intro ?_ ?_ | refine wR ?_ | exact wr _ _ | refine wa ?_ | apply awp_join | refine q p0 ?_ | refine qd p0 ?_ | refine qz p0 ?_ | refine q p1 ?_ | refine qd p1 ?_ | refine qz p1 ?_ | refine q p2 ?_ | refine qd p2 ?_ | refine qz p2 ?_ | refine q p3 ?_ | refine qd p3 ?_ | refine qz p3 ?_ | refine q p4 ?_ | refine qd p4 ?_ | refine qz p4 ?_ | refine q hc ?_ | refine qd hc ?_ | refine qz hc ?_) | (with_reducible refine CallZ.z ?_) | simp -dsimp [go_sem])
  all_goals trace_state
theorem act10_c (g : Gear) (h : g.Ok) (hk : pk g.kind 20 = 10) : PCall Tryz.prog G 29 [.agg g.c] (.agg g.act.c) := by
  have p0 := picked'_c (G := G) g.kind 20 h.kind (by omega)
  have p1 := picked'_c (G := G) g.a 3 h.a (by omega)
  have p2 := picked'_c (G := G) g.b 300 h.b (by omega)
  have p3 := picked'_c (G := G) g.b 500 h.b (by omega)
  have p4 := picked'_c (G := G) g.b 40 h.b (by omega)
  have hc := gcall_c (G := G) g h
  unfold Gear.act
  rw [hk] at p0 ⊢
  simp only [actK, zCal, Gear.c, Act.c, Cal.c] at hc ⊢
  generalize g.call = C at *
  obtain ⟨cl, sq, ⟨ck, ca, cb, cd, cn⟩⟩ := C
  generalize pk g.a 3 = A at *
  generalize pk g.b 300 = B at *
  generalize pk g.b 500 = B5 at *
  generalize pk g.b 40 = B4 at *
  refine pcallc mixed Tryz.func29 ac_rostrumtop_act ?_
  repeat' (first | (with_reducible first | refine Cn (fun h => ?_) fun h => ?_ | refine And.intro ?_ ?_ | refine wR ?_ | exact wr _ _ | refine wa ?_ | apply awp_join | refine q p0 ?_ | refine qd p0 ?_ | refine qz p0 ?_ | refine q p1 ?_ | refine qd p1 ?_ | refine qz p1 ?_ | refine q p2 ?_ | refine qd p2 ?_ | refine qz p2 ?_ | refine q p3 ?_ | refine qd p3 ?_ | refine qz p3 ?_ | refine q p4 ?_ | refine qd p4 ?_ | refine qz p4 ?_ | refine q hc ?_ | refine qd hc ?_ | refine qz hc ?_) | (with_reducible refine CallZ.z ?_) | simp -dsimp [go_sem])
  all_goals trace_state
theorem act11_c (g : Gear) (h : g.Ok) (hk : pk g.kind 20 = 11) : PCall Tryz.prog G 29 [.agg g.c] (.agg g.act.c) := by
  have p0 := picked'_c (G := G) g.kind 20 h.kind (by omega)
  have p1 := picked'_c (G := G) g.a 3 h.a (by omega)
  have p2 := picked'_c (G := G) g.b 300 h.b (by omega)
  have p3 := picked'_c (G := G) g.b 500 h.b (by omega)
  have p4 := picked'_c (G := G) g.b 40 h.b (by omega)
  have hc := gcall_c (G := G) g h
  unfold Gear.act
  rw [hk] at p0 ⊢
  simp only [actK, zCal, Gear.c, Act.c, Cal.c] at hc ⊢
  generalize g.call = C at *
  obtain ⟨cl, sq, ⟨ck, ca, cb, cd, cn⟩⟩ := C
  generalize pk g.a 3 = A at *
  generalize pk g.b 300 = B at *
  generalize pk g.b 500 = B5 at *
  generalize pk g.b 40 = B4 at *
  refine pcallc mixed Tryz.func29 ac_rostrumtop_act ?_
  repeat' (first | (with_reducible first | refine Cn (fun h => ?_) fun h => ?_ | refine And.intro ?_ ?_ | refine wR ?_ | exact wr _ _ | refine wa ?_ | apply awp_join | refine q p0 ?_ | refine qd p0 ?_ | refine qz p0 ?_ | refine q p1 ?_ | refine qd p1 ?_ | refine qz p1 ?_ | refine q p2 ?_ | refine qd p2 ?_ | refine qz p2 ?_ | refine q p3 ?_ | refine qd p3 ?_ | refine qz p3 ?_ | refine q p4 ?_ | refine qd p4 ?_ | refine qz p4 ?_ | refine q hc ?_ | refine qd hc ?_ | refine qz hc ?_) | (with_reducible refine CallZ.z ?_) | simp -dsimp [go_sem])
  all_goals trace_state
theorem act12_c (g : Gear) (h : g.Ok) (hk : pk g.kind 20 = 12) : PCall Tryz.prog G 29 [.agg g.c] (.agg g.act.c) := by
  have p0 := picked'_c (G := G) g.kind 20 h.kind (by omega)
  have p1 := picked'_c (G := G) g.a 3 h.a (by omega)
  have p2 := picked'_c (G := G) g.b 300 h.b (by omega)
  have p3 := picked'_c (G := G) g.b 500 h.b (by omega)
  have p4 := picked'_c (G := G) g.b 40 h.b (by omega)
  have hc := gcall_c (G := G) g h
  unfold Gear.act
  rw [hk] at p0 ⊢
  simp only [actK, zCal, Gear.c, Act.c, Cal.c] at hc ⊢
  generalize g.call = C at *
  obtain ⟨cl, sq, ⟨ck, ca, cb, cd, cn⟩⟩ := C
  generalize pk g.a 3 = A at *
  generalize pk g.b 300 = B at *
  generalize pk g.b 500 = B5 at *
  generalize pk g.b 40 = B4 at *
  refine pcallc mixed Tryz.func29 ac_rostrumtop_act ?_
  repeat' (first | (with_reducible first | refine Cn (fun h => ?_) fun h => ?_ | refine And.intro ?_ ?_ | refine wR ?_ | exact wr _ _ | refine wa ?_ | apply awp_join | refine q p0 ?_ | refine qd p0 ?_ | refine qz p0 ?_ | refine q p1 ?_ | refine qd p1 ?_ | refine qz p1 ?_ | refine q p2 ?_ | refine qd p2 ?_ | refine qz p2 ?_ | refine q p3 ?_ | refine qd p3 ?_ | refine qz p3 ?_ | refine q p4 ?_ | refine qd p4 ?_ | refine qz p4 ?_ | refine q hc ?_ | refine qd hc ?_ | refine qz hc ?_) | (with_reducible refine CallZ.z ?_) | simp -dsimp [go_sem])
  all_goals trace_state
theorem act13_c (g : Gear) (h : g.Ok) (hk : pk g.kind 20 = 13) : PCall Tryz.prog G 29 [.agg g.c] (.agg g.act.c) := by
  have p0 := picked'_c (G := G) g.kind 20 h.kind (by omega)
  have p1 := picked'_c (G := G) g.a 3 h.a (by omega)
  have p2 := picked'_c (G := G) g.b 300 h.b (by omega)
  have p3 := picked'_c (G := G) g.b 500 h.b (by omega)
  have p4 := picked'_c (G := G) g.b 40 h.b (by omega)
  have hc := gcall_c (G := G) g h
  unfold Gear.act
  rw [hk] at p0 ⊢
  simp only [actK, zCal, Gear.c, Act.c, Cal.c] at hc ⊢
  generalize g.call = C at *
  obtain ⟨cl, sq, ⟨ck, ca, cb, cd, cn⟩⟩ := C
  generalize pk g.a 3 = A at *
  generalize pk g.b 300 = B at *
  generalize pk g.b 500 = B5 at *
  generalize pk g.b 40 = B4 at *
  refine pcallc mixed Tryz.func29 ac_rostrumtop_act ?_
  repeat' (first | (with_reducible first | refine Cn (fun h => ?_) fun h => ?_ | refine And.intro ?_ ?_ | refine wR ?_ | exact wr _ _ | refine wa ?_ | apply awp_join | refine q p0 ?_ | refine qd p0 ?_ | refine qz p0 ?_ | refine q p1 ?_ | refine qd p1 ?_ | refine qz p1 ?_ | refine q p2 ?_ | refine qd p2 ?_ | refine qz p2 ?_ | refine q p3 ?_ | refine qd p3 ?_ | refine qz p3 ?_ | refine q p4 ?_ | refine qd p4 ?_ | refine qz p4 ?_ | refine q hc ?_ | refine qd hc ?_ | refine qz hc ?_) | (with_reducible refine CallZ.z ?_) | simp -dsimp [go_sem])
  all_goals trace_state
theorem act14_c (g : Gear) (h : g.Ok) (hk : pk g.kind 20 = 14) : PCall Tryz.prog G 29 [.agg g.c] (.agg g.act.c) := by
  have p0 := picked'_c (G := G) g.kind 20 h.kind (by omega)
  have p1 := picked'_c (G := G) g.a 3 h.a (by omega)
  have p2 := picked'_c (G := G) g.b 300 h.b (by omega)
  have p3 := picked'_c (G := G) g.b 500 h.b (by omega)
  have p4 := picked'_c (G := G) g.b 40 h.b (by omega)
  have hc := gcall_c (G := G) g h
  unfold Gear.act
  rw [hk] at p0 ⊢
  simp only [actK, zCal, Gear.c, Act.c, Cal.c] at hc ⊢
  generalize g.call = C at *
  obtain ⟨cl, sq, ⟨ck, ca, cb, cd, cn⟩⟩ := C
  generalize pk g.a 3 = A at *
  generalize pk g.b 300 = B at *
  generalize pk g.b 500 = B5 at *
  generalize pk g.b 40 = B4 at *
  refine pcallc mixed Tryz.func29 ac_rostrumtop_act ?_
  repeat' (first | (with_reducible first | refine Cn (fun h => ?_) fun h => ?_ | refine And.intro ?_ ?_ | refine wR ?_ | exact wr _ _ | refine wa ?_ | apply awp_join | refine q p0 ?_ | refine qd p0 ?_ | refine qz p0 ?_ | refine q p1 ?_ | refine qd p1 ?_ | refine qz p1 ?_ | refine q p2 ?_ | refine qd p2 ?_ | refine qz p2 ?_ | refine q p3 ?_ | refine qd p3 ?_ | refine qz p3 ?_ | refine q p4 ?_ | refine qd p4 ?_ | refine qz p4 ?_ | refine q hc ?_ | refine qd hc ?_ | refine qz hc ?_) | (with_reducible refine CallZ.z ?_) | simp -dsimp [go_sem])
  all_goals trace_state
theorem act15_c (g : Gear) (h : g.Ok) (hk : pk g.kind 20 = 15) : PCall Tryz.prog G 29 [.agg g.c] (.agg g.act.c) := by
  have p0 := picked'_c (G := G) g.kind 20 h.kind (by omega)
  have p1 := picked'_c (G := G) g.a 3 h.a (by omega)
  have p2 := picked'_c (G := G) g.b 300 h.b (by omega)
  have p3 := picked'_c (G := G) g.b 500 h.b (by omega)
  have p4 := picked'_c (G := G) g.b 40 h.b (by omega)
  have hc := gcall_c (G := G) g h
  unfold Gear.act
  rw [hk] at p0 ⊢
  simp only [actK, zCal, Gear.c, Act.c, Cal.c] at hc ⊢
  generalize g.call = C at *
  obtain ⟨cl, sq, ⟨ck, ca, cb, cd, cn⟩⟩ := C
  generalize pk g.a 3 = A at *
  generalize pk g.b 300 = B at *
  generalize pk g.b 500 = B5 at *
  generalize pk g.b 40 = B4 at *
  refine pcallc mixed Tryz.func29 ac_rostrumtop_act ?_
  repeat' (first | (with_reducible first | refine Cn (fun h => ?_) fun h => ?_ | refine And.intro ?_ ?_ | refine wR ?_ | exact wr _ _ | refine wa ?_ | apply awp_join | refine q p0 ?_ | refine qd p0 ?_ | refine qz p0 ?_ | refine q p1 ?_ | refine qd p1 ?_ | refine qz p1 ?_ | refine q p2 ?_ | refine qd p2 ?_ | refine qz p2 ?_ | refine q p3 ?_ | refine qd p3 ?_ | refine qz p3 ?_ | refine q p4 ?_ | refine qd p4 ?_ | refine qz p4 ?_ | refine q hc ?_ | refine qd hc ?_ | refine qz hc ?_) | (with_reducible refine CallZ.z ?_) | simp -dsimp [go_sem])
  all_goals trace_state
theorem act16_c (g : Gear) (h : g.Ok) (hk : pk g.kind 20 = 16) : PCall Tryz.prog G 29 [.agg g.c] (.agg g.act.c) := by
  have p0 := picked'_c (G := G) g.kind 20 h.kind (by omega)
  have p1 := picked'_c (G := G) g.a 3 h.a (by omega)
  have p2 := picked'_c (G := G) g.b 300 h.b (by omega)
  have p3 := picked'_c (G := G) g.b 500 h.b (by omega)
  have p4 := picked'_c (G := G) g.b 40 h.b (by omega)
  have hc := gcall_c (G := G) g h
  unfold Gear.act
  rw [hk] at p0 ⊢
  simp only [actK, zCal, Gear.c, Act.c, Cal.c] at hc ⊢
  generalize g.call = C at *
  obtain ⟨cl, sq, ⟨ck, ca, cb, cd, cn⟩⟩ := C
  generalize pk g.a 3 = A at *
  generalize pk g.b 300 = B at *
  generalize pk g.b 500 = B5 at *
  generalize pk g.b 40 = B4 at *
  refine pcallc mixed Tryz.func29 ac_rostrumtop_act ?_
  repeat' (first | (with_reducible first | refine Cn (fun h => ?_) fun h => ?_ | refine And.intro ?_ ?_ | refine wR ?_ | exact wr _ _ | refine wa ?_ | apply awp_join | refine q p0 ?_ | refine qd p0 ?_ | refine qz p0 ?_ | refine q p1 ?_ | refine qd p1 ?_ | refine qz p1 ?_ | refine q p2 ?_ | refine qd p2 ?_ | refine qz p2 ?_ | refine q p3 ?_ | refine qd p3 ?_ | refine qz p3 ?_ | refine q p4 ?_ | refine qd p4 ?_ | refine qz p4 ?_ | refine q hc ?_ | refine qd hc ?_ | refine qz hc ?_) | (with_reducible refine CallZ.z ?_) | simp -dsimp [go_sem])
  all_goals trace_state
theorem act17_c (g : Gear) (h : g.Ok) (hk : pk g.kind 20 = 17) : PCall Tryz.prog G 29 [.agg g.c] (.agg g.act.c) := by
  have p0 := picked'_c (G := G) g.kind 20 h.kind (by omega)
  have p1 := picked'_c (G := G) g.a 3 h.a (by omega)
  have p2 := picked'_c (G := G) g.b 300 h.b (by omega)
  have p3 := picked'_c (G := G) g.b 500 h.b (by omega)
  have p4 := picked'_c (G := G) g.b 40 h.b (by omega)
  have hc := gcall_c (G := G) g h
  unfold Gear.act
  rw [hk] at p0 ⊢
  simp only [actK, zCal, Gear.c, Act.c, Cal.c] at hc ⊢
  generalize g.call = C at *
  obtain ⟨cl, sq, ⟨ck, ca, cb, cd, cn⟩⟩ := C
  generalize pk g.a 3 = A at *
  generalize pk g.b 300 = B at *
  generalize pk g.b 500 = B5 at *
  generalize pk g.b 40 = B4 at *
  refine pcallc mixed Tryz.func29 ac_rostrumtop_act ?_
  repeat' (first | (with_reducible first | refine Cn (fun h => ?_) fun h => ?_ | refine And.intro ?_ ?_ | refine wR ?_ | exact wr _ _ | refine wa ?_ | apply awp_join | refine q p0 ?_ | refine qd p0 ?_ | refine qz p0 ?_ | refine q p1 ?_ | refine qd p1 ?_ | refine qz p1 ?_ | refine q p2 ?_ | refine qd p2 ?_ | refine qz p2 ?_ | refine q p3 ?_ | refine qd p3 ?_ | refine qz p3 ?_ | refine q p4 ?_ | refine qd p4 ?_ | refine qz p4 ?_ | refine q hc ?_ | refine qd hc ?_ | refine qz hc ?_) | (with_reducible refine CallZ.z ?_) | simp -dsimp [go_sem])
  all_goals trace_state
theorem act18_c (g : Gear) (h : g.Ok) (hk : pk g.kind 20 = 18) : PCall Tryz.prog G 29 [.agg g.c] (.agg g.act.c) := by
  have p0 := picked'_c (G := G) g.kind 20 h.kind (by omega)
  have p1 := picked'_c (G := G) g.a 3 h.a (by omega)
  have p2 := picked'_c (G := G) g.b 300 h.b (by omega)
  have p3 := picked'_c (G := G) g.b 500 h.b (by omega)
  have p4 := picked'_c (G := G) g.b 40 h.b (by omega)
  have hc := gcall_c (G := G) g h
  unfold Gear.act
  rw [hk] at p0 ⊢
  simp only [actK, zCal, Gear.c, Act.c, Cal.c] at hc ⊢
  generalize g.call = C at *
  obtain ⟨cl, sq, ⟨ck, ca, cb, cd, cn⟩⟩ := C
  generalize pk g.a 3 = A at *
  generalize pk g.b 300 = B at *
  generalize pk g.b 500 = B5 at *
  generalize pk g.b 40 = B4 at *
  refine pcallc mixed Tryz.func29 ac_rostrumtop_act ?_
  repeat' (first | (with_reducible first | refine Cn (fun h => ?_) fun h => ?_ | refine And.intro ?_ ?_ | refine wR ?_ | exact wr _ _ | refine wa ?_ | apply awp_join | refine q p0 ?_ | refine qd p0 ?_ | refine qz p0 ?_ | refine q p1 ?_ | refine qd p1 ?_ | refine qz p1 ?_ | refine q p2 ?_ | refine qd p2 ?_ | refine qz p2 ?_ | refine q p3 ?_ | refine qd p3 ?_ | refine qz p3 ?_ | refine q p4 ?_ | refine qd p4 ?_ | refine qz p4 ?_ | refine q hc ?_ | refine qd hc ?_ | refine qz hc ?_) | (with_reducible refine CallZ.z ?_) | simp -dsimp [go_sem])
  all_goals trace_state
theorem act19_c (g : Gear) (h : g.Ok) (hk : pk g.kind 20 = 19) : PCall Tryz.prog G 29 [.agg g.c] (.agg g.act.c) := by
  have p0 := picked'_c (G := G) g.kind 20 h.kind (by omega)
  have p1 := picked'_c (G := G) g.a 3 h.a (by omega)
  have p2 := picked'_c (G := G) g.b 300 h.b (by omega)
  have p3 := picked'_c (G := G) g.b 500 h.b (by omega)
  have p4 := picked'_c (G := G) g.b 40 h.b (by omega)
  have hc := gcall_c (G := G) g h
  unfold Gear.act
  rw [hk] at p0 ⊢
  simp only [actK, zCal, Gear.c, Act.c, Cal.c] at hc ⊢
  generalize g.call = C at *
  obtain ⟨cl, sq, ⟨ck, ca, cb, cd, cn⟩⟩ := C
  generalize pk g.a 3 = A at *
  generalize pk g.b 300 = B at *
  generalize pk g.b 500 = B5 at *
  generalize pk g.b 40 = B4 at *
  refine pcallc mixed Tryz.func29 ac_rostrumtop_act ?_
  repeat' (first | (with_reducible first | refine Cn (fun h => ?_) fun h => ?_ | refine And.intro ?_ ?_ | refine wR ?_ | exact wr _ _ | refine wa ?_ | apply awp_join | refine q p0 ?_ | refine qd p0 ?_ | refine qz p0 ?_ | refine q p1 ?_ | refine qd p1 ?_ | refine qz p1 ?_ | refine q p2 ?_ | refine qd p2 ?_ | refine qz p2 ?_ | refine q p3 ?_ | refine qd p3 ?_ | refine qz p3 ?_ | refine q p4 ?_ | refine qd p4 ?_ | refine qz p4 ?_ | refine q hc ?_ | refine qd hc ?_ | refine qz hc ?_) | (with_reducible refine CallZ.z ?_) | simp -dsimp [go_sem])
  all_goals trace_state
theorem act_c (g : Gear) (h : g.Ok) : PCall Tryz.prog G 29 [.agg g.c] (.agg g.act.c) := by
  have hr := pk_range (n := g.kind) (m := 20) (by omega)
  have hk : pk g.kind 20 = 0 ∨ pk g.kind 20 = 1 ∨ pk g.kind 20 = 2 ∨ pk g.kind 20 = 3 ∨ pk g.kind 20 = 4 ∨ pk g.kind 20 = 5 ∨ pk g.kind 20 = 6 ∨ pk g.kind 20 = 7 ∨ pk g.kind 20 = 8 ∨ pk g.kind 20 = 9 ∨ pk g.kind 20 = 10 ∨ pk g.kind 20 = 11 ∨ pk g.kind 20 = 12 ∨ pk g.kind 20 = 13 ∨ pk g.kind 20 = 14 ∨ pk g.kind 20 = 15 ∨ pk g.kind 20 = 16 ∨ pk g.kind 20 = 17 ∨ pk g.kind 20 = 18 ∨ pk g.kind 20 = 19 := by omega
  rcases hk with hk | hk | hk | hk | hk | hk | hk | hk | hk | hk | hk | hk | hk | hk | hk | hk | hk | hk | hk | hk
  · exact act0_c g h hk
  · exact act1_c g h hk
  · exact act2_c g h hk
  · exact act3_c g h hk
  · exact act4_c g h hk
  · exact act5_c g h hk
  · exact act6_c g h hk
  · exact act7_c g h hk
  · exact act8_c g h hk
  · exact act9_c g h hk
  · exact act10_c g h hk
  · exact act11_c g h hk
  · exact act12_c g h hk
  · exact act13_c g h hk
  · exact act14_c g h hk
  · exact act15_c g h hk
  · exact act16_c g h hk
  · exact act17_c g h hk
  · exact act18_c g h hk
  · exact act19_c g h hk
theorem Gear.act_ok (g : Gear) (h : g.Ok) : g.act.check = 0 := by
  have hr := pk_range (n := g.kind) (m := 20) (by omega)
  have h1 := pk_range (n := g.a) (m := 3) (by omega)
  have h2 := pk_range (n := g.b) (m := 300) (by omega)
  have h3 := pk_range (n := g.b) (m := 500) (by omega)
  have h4 := pk_range (n := g.b) (m := 40) (by omega)
  have h5 := pk_range (n := g.b) (m := 4) (by omega)
  have h6 := pk_range (n := g.a) (m := 4) (by omega)
  have hz : noCal zCal = true := by decide
  have hc : checkCl g.call = 0 := by
    unfold Gear.call
    split
    · decide
    · have := cmdR_ok h.raw
      unfold checkC at this
      simp only [checkCl, checkCall]
      rw [if_neg (by simpa using ‹¬ pk g.b 4 = 0›), if_pos (by simp only [okNumber, Bool.and_eq_true, decide_eq_true_eq]; omega), if_pos (by simp only [okNumber, Bool.and_eq_true, decide_eq_true_eq]; omega)]
      exact this
  have hk : pk g.kind 20 = 0 ∨ pk g.kind 20 = 1 ∨ pk g.kind 20 = 2 ∨ pk g.kind 20 = 3 ∨ pk g.kind 20 = 4 ∨ pk g.kind 20 = 5 ∨ pk g.kind 20 = 6 ∨ pk g.kind 20 = 7 ∨ pk g.kind 20 = 8 ∨ pk g.kind 20 = 9 ∨ pk g.kind 20 = 10 ∨ pk g.kind 20 = 11 ∨ pk g.kind 20 = 12 ∨ pk g.kind 20 = 13 ∨ pk g.kind 20 = 14 ∨ pk g.kind 20 = 15 ∨ pk g.kind 20 = 16 ∨ pk g.kind 20 = 17 ∨ pk g.kind 20 = 18 ∨ pk g.kind 20 = 19 := by omega
  unfold Gear.act
  rcases hk with hk | hk | hk | hk | hk | hk | hk | hk | hk | hk | hk | hk | hk | hk | hk | hk | hk | hk | hk | hk
  all_goals
    rw [hk]
    simp only [actK, Act.check, hasN, hasP]
    simp [hz, hc]
    try omega
end Go.Proofs.YtkkleopmambcnaaGreatDoor
set_option linter.unusedVariables false
set_option linter.unusedSimpArgs false
set_option maxRecDepth 100000
set_option maxHeartbeats 8000000
namespace Go.Proofs.YtkkleopmambcnaaGreatDoor
open Go Go.RowKit Go.Proofs.AE
variable {G : Nat → AV}
def actsOf (l : List Gear) (most : Nat) : List Act := (l.take most).map Gear.act
theorem act_ul (l : List Act) : UL 10 (l.map Act.row) := by
  intro r hr
  obtain ⟨y, _, rfl⟩ := List.mem_map.1 hr
  rfl
theorem actsO_c (l : List Gear) (most : Nat) (hl : (l.length : Int) ≤ 9223372036854775807) (hm : most ≤ 1000) (hd : ∀ g ∈ l, g.Ok) :
    DetCall Tryz.prog G 15 0 [] [.one (.v (.sl (l.map Gear.row))), iV most] (.one (.ar 0)) [some (.arr 31 10 ((actsOf l most).map Act.row))] := by
  have hrl : (l.map Gear.row).length = l.length := by simp
  refine gcallc mixed Tryz.func15 ac_rostrumtop_acts ?_
  simp -dsimp [go_sem]
  refine awp_loop (fun i : Nat => ⟨[(0, .one (.v (.sl (l.map Gear.row)))), (1, iV most), (5, .one (.ar 0)), (6, iV i)], G, [some (.arr 31 10 ((actsOf l i).map Act.row))]⟩)
    (fun i => i ≤ most ∧ i ≤ l.length) (fun i => most - i) 0 (Weak.trans (weak_nil 5 31 10 ?_ (by omega)) (weak_auto ?_)) ⟨Nat.zero_le _, Nat.zero_le _⟩ ?_
  · simp -dsimp [go_sem]
  · simp -dsimp [go_sem, actsOf]
  · rintro i ⟨a1, a2⟩
    have e4 : IntKind.i64.wrap ((i : Int) + 1) = (i : Int) + 1 := IntWalk.i64_in _ (by omega)
    by_cases h1 : i < l.length
    · have q1 : decide ((i : Int) < (l.length : Int)) = true := decide_eq_true (by omega)
      have q1' : decide (i < l.length) = true := decide_eq_true h1
      by_cases h2 : i < most
      · have q2 : decide ((i : Int) < (most : Int)) = true := decide_eq_true (by omega)
        have q2' : decide (i < most) = true := decide_eq_true h2
        obtain ⟨x, hx⟩ : ∃ x, l[i]? = some x := ⟨_, List.getElem?_eq_getElem h1⟩
        have hr : (l.map Gear.row)[i]? = some x.row := by simp [hx]
        have hact := act_c (G := G) x (hd x (List.mem_of_getElem? hx))
        have hsu : (actsOf l (i + 1)).map Act.row = (actsOf l i).map Act.row ++ [x.act.row] := by unfold actsOf; rw [List.take_add_one, hx]; simp
        have hul := act_ul (actsOf l i)
        have hal : ((actsOf l i).map Act.row).length = i := by unfold actsOf; simp; omega
        have hag : i + 1 ≤ most ∧ i + 1 ≤ l.length := ⟨h2, h1⟩
        generalize (actsOf l i).map Act.row = R at *
        obtain ⟨gk, ga, gb, ⟨rk, rkey, rf, rn, rt⟩⟩ := x
        generalize Gear.act ⟨gk, ga, gb, ⟨rk, rkey, rf, rn, rt⟩⟩ = A at *
        obtain ⟨ak, an, ap, ⟨cl, sq, ⟨ck, ca, cb, cd, cn⟩⟩⟩ := A
        simp only [Gear.row, Gear.c, Act.row, Act.c] at hr hact hsu
        repeat' (first | (with_reducible first | refine Cn (fun h => ?_) fun h => ?_ | refine And.intro ?_ ?_ | refine wR ?_ | exact wr _ _ | refine wa ?_ | apply awp_join | refine q hact ?_ | refine qd hact ?_ | refine qz hact ?_) | (with_reducible refine CallZ.z ?_) | simp -dsimp [go_sem, hr, q1, q2, q1', q2', e4, hul, hal, hrl])
        all_goals first
          | omega
          | (simp [UL]; done)
          | (refine Again.auto (i + 1) ?_ hag (by omega)
             simp -dsimp [go_sem, hsu]; done)
          | trace_state
      · have hie : i = most := by omega
        subst hie
        have q2 : decide ((i : Int) < (i : Int)) = false := decide_eq_false (by omega)
        have q2' : decide (i < i) = false := decide_eq_false (by omega)
        generalize hR : (actsOf l i).map Act.row = R at *
        repeat' (first | (with_reducible first | refine Cn (fun h => ?_) fun h => ?_ | refine And.intro ?_ ?_ | refine wR ?_ | exact wr _ _ | refine wa ?_ | apply awp_join) | (with_reducible refine CallZ.z ?_) | simp -dsimp [go_sem, q1, q2, q1', q2', hrl])
        all_goals first | omega | trace_state
    · have hie : i = l.length := by omega
      have q1 : decide ((i : Int) < (l.length : Int)) = false := decide_eq_false (by omega)
      have q1' : decide (i < l.length) = false := decide_eq_false (by omega)
      have he : actsOf l i = actsOf l most := by unfold actsOf; rw [List.take_of_length_le (by omega), List.take_of_length_le (by omega)]
      rw [he]
      generalize hR : (actsOf l most).map Act.row = R at *
      repeat' (first | (with_reducible first | refine Cn (fun h => ?_) fun h => ?_ | refine And.intro ?_ ?_ | refine wR ?_ | exact wr _ _ | refine wa ?_ | apply awp_join) | (with_reducible refine CallZ.z ?_) | simp -dsimp [go_sem, q1, q1', hrl])
      all_goals first | omega | trace_state
theorem acts_c (l : List Gear) (most : Nat) (hl : (l.length : Int) ≤ 9223372036854775807) (hm : most ≤ 1000) (hd : ∀ g ∈ l, g.Ok) :
    PCall Tryz.prog G 15 [.one (.v (.sl (l.map Gear.row))), iV most] (.one (.v (.sl ((actsOf l most).map Act.row)))) :=
  (actsO_c l most hl hm hd).plain (by simp -dsimp [go_sem])
theorem acts_good {l : List Gear} (hd : ∀ g ∈ l, g.Ok) (n : Nat) : ∀ a ∈ actsOf l n, a.check = 0 := by
  intro a ha
  obtain ⟨g, hg, rfl⟩ := List.mem_map.1 ha
  exact g.act_ok (hd g (List.mem_of_mem_take hg))
theorem acts_len (l : List Gear) (n : Nat) : (actsOf l n).length ≤ n := by unfold actsOf; simp; omega
abbrev zOut : List C := [.v (.sl []), .v (.sl []), .v (.sl []), iC 0]
theorem runMany_c (l : List Act) (h : 3000 < l.length) (hl : (l.length : Int) ≤ 9223372036854775807) : PCall Tryz.prog G 17 [.one (.v (.sl (l.map Act.row)))] (.tup [.agg zOut, iV 1]) := by
  have q1 : decide (3000 < (l.length : Int)) = true := decide_eq_true (by omega)
  have q1' : decide (3000 < l.length) = true := decide_eq_true h
  have hrl : (l.map Act.row).length = l.length := by simp
  refine pcallc mixed Tryz.func17 ac_crew_Run ?_
  repeat' (first | (with_reducible first | refine Cn (fun h => ?_) fun h => ?_ | refine And.intro ?_ ?_ | refine wR ?_ | exact wr _ _ | refine wa ?_ | apply awp_join) | (with_reducible refine CallZ.z ?_) | simp -dsimp [go_sem, q1, q1', hrl])
  all_goals first | omega | trace_state
theorem runBad_c (l : List Act) (k : Nat) (a : Act) (hl : l.length ≤ 3000) (hk : l[k]? = some a) (hb : a.check ≠ 0) (hg : ∀ i, i < k → ∀ b, l[i]? = some b → b.check = 0) : PCall Tryz.prog G 17 [.one (.v (.sl (l.map Act.row)))] (.tup [.agg zOut, iV a.check]) := by
  have q1 : decide (3000 < (l.length : Int)) = false := decide_eq_false (by omega)
  have q1' : decide (3000 < l.length) = false := decide_eq_false (by omega)
  have hrl : (l.map Act.row).length = l.length := by simp
  have hkl := (List.getElem?_eq_some_iff.1 hk).1
  refine pcallc mixed Tryz.func17 ac_crew_Run ?_
  repeat' (first | (with_reducible first | refine Cn (fun h => ?_) fun h => ?_ | refine And.intro ?_ ?_ | refine wR ?_ | exact wr _ _ | refine weak_autoC ?_ | apply awp_join) | (with_reducible refine CallZ.z ?_) | simp -dsimp [go_sem, q1, q1', hrl, clean_nil, clean_cons, clean_yes, clean_no])
  refine awp_loop (fun i : Nat => ⟨[(0, .one (.v (.sl (l.map Act.row)))), (2, .one (.ptr 0 0)), (21, .one (.v (.sl (l.map Act.row)))), (22, iV l.length), (23, iV i)], G, [some (.box 36 zOut)]⟩) (fun i => i ≤ k) (fun i => k - i) 0 (weak_auto ?_) (Nat.zero_le _) ?_
  · simp -dsimp [go_sem, hrl]
  · intro i hi
    obtain ⟨b, hbi⟩ : ∃ b, l[i]? = some b := ⟨_, List.getElem?_eq_getElem (by omega)⟩
    have hr : (l.map Act.row)[i]? = some b.row := by simp [hbi]
    have q2 : decide ((i : Int) < (l.length : Int)) = true := decide_eq_true (by omega)
    have q2' : decide (i < l.length) = true := decide_eq_true (by omega)
    have e4 : IntKind.i64.wrap ((i : Int) + 1) = (i : Int) + 1 := IntWalk.i64_in _ (by omega)
    have hc := checkA_c (G := G) b
    by_cases hik : i = k
    · subst hik
      rw [hbi] at hk
      obtain rfl : a = b := (Option.some.inj hk).symm
      have q3 : (a.check != 0) = true := by simpa using hb
      clear hb hg
      generalize a.check = E at *
      obtain ⟨ak, an, ap, ⟨cl, sq, ⟨ck, ca, cb, cd, cn⟩⟩⟩ := a
      simp only [Act.row, Act.c] at hr hc
      repeat' (first | (with_reducible first | refine Cn (fun h => ?_) fun h => ?_ | refine And.intro ?_ ?_ | refine wR ?_ | exact wr _ _ | refine weak_autoC ?_ | apply awp_join | refine q hc ?_ | refine qd hc ?_ | refine qz hc ?_) | (with_reducible refine CallZ.z ?_) | simp -dsimp [go_sem, hr, q2, q2', q3, hrl, clean_nil, clean_cons, clean_yes, clean_no])
      all_goals first | omega | trace_state
    · have q3 : (b.check != 0) = false := by have := hg i (by omega) b hbi; simpa using this
      have hz : b.check = 0 := hg i (by omega) b hbi
      rw [hz] at hc
      clear hb hg q3 hz
      have hag : i + 1 ≤ k := by omega
      obtain ⟨ak, an, ap, ⟨cl, sq, ⟨ck, ca, cb, cd, cn⟩⟩⟩ := b
      simp only [Act.row, Act.c] at hr hc
      repeat' (first | (with_reducible first | refine Cn (fun h => ?_) fun h => ?_ | refine And.intro ?_ ?_ | refine wR ?_ | exact wr _ _ | refine weak_autoC ?_ | apply awp_join | refine q hc ?_ | refine qd hc ?_ | refine qz hc ?_) | (with_reducible refine CallZ.z ?_) | simp -dsimp [go_sem, hr, q2, q2', e4, hrl, clean_nil, clean_cons, clean_yes, clean_no])
      all_goals first
        | omega
        | (refine Again.auto (i + 1) ?_ hag (by omega)
           simp -dsimp [go_sem]; done)
        | trace_state
end Go.Proofs.YtkkleopmambcnaaGreatDoor
set_option linter.unusedVariables false
set_option linter.unusedSimpArgs false
set_option maxRecDepth 100000
set_option maxHeartbeats 8000000
namespace Go.Proofs.YtkkleopmambcnaaGreatDoor
open Go Go.RowKit Go.Proofs.AE
variable {G : Nat → AV}
instance : DecidableEq Ent := fun a b => decidable_of_iff (a.key = b.key ∧ a.val = b.val ∧ a.till = b.till) (by cases a; cases b; simp)
instance : DecidableEq Sto := fun a b => decidable_of_iff (a.now = b.now ∧ a.ents = b.ents) (by cases a; cases b; simp)
end Go.Proofs.YtkkleopmambcnaaGreatDoor
set_option linter.unusedVariables false
set_option linter.unusedSimpArgs false
set_option maxRecDepth 100000
set_option maxHeartbeats 8000000
namespace Go.Proofs.YtkkleopmambcnaaGreatDoor
open Go Go.RowKit Go.Proofs.AE
variable {G : Nat → AV}
def Cli.cs (x : Cli) : List C := x.c
end Go.Proofs.YtkkleopmambcnaaGreatDoor
set_option linter.unusedVariables false
set_option linter.unusedSimpArgs false
set_option maxRecDepth 100000
set_option maxHeartbeats 8000000
namespace Go.Proofs.YtkkleopmambcnaaGreatDoor
open Go Go.RowKit Go.Proofs.AE
variable {G : Nat → AV}
def Noth (G : Nat → AV) : Prop := G 0 = .one (.vptr [.lit (.int .i64 22), .lit (.string ⟨#[]⟩), .lit (.string ⟨#[]⟩), .lit (.string ⟨#[]⟩), .lit (.int .i64 0)])
end Go.Proofs.YtkkleopmambcnaaGreatDoor
