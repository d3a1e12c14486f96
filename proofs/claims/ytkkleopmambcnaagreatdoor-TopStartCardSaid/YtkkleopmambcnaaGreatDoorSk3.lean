/- Texts joined. -/
import Derived.Test.YtkkleopmambcnaaGreatDoorProg
import Derived.Test.YtkkleopmambcnaaGreatDoorSk2
import Derived.IntWalk
import Derived.Lib.Strings
import Derived.Lib.Slices
import Derived.Lib.Walk
import Derived.Lib.Bytealg
import Derived.Deep.Slices
import Derived.ChangeStays
import Derived.MapPlaces
import Derived.ChangeBears
set_option maxRecDepth 100000
set_option maxHeartbeats 8000000
namespace Go.Proofs.YtkkleopmambcnaaGreatDoor
open Go Go.RowKit Go.Proofs.AE
@[go_sem] theorem ti1 : tiOf Tryz.prog 1 = some ⟨.other, 1, 8, [.lit .nilFunc], []⟩ := by kernel_rfl
@[go_sem] theorem ti3 : tiOf Tryz.prog 3 = some ⟨.int .i64, 1, 8, [.lit (.int .i64 0)], []⟩ := by kernel_rfl
@[go_sem] theorem ti4 : tiOf Tryz.prog 4 = some ⟨.bool, 1, 1, [.lit (.bool false)], []⟩ := by kernel_rfl
@[go_sem] theorem ti5 : tiOf Tryz.prog 5 = some ⟨.int .u8, 1, 1, [.lit (.int .u8 0)], []⟩ := by kernel_rfl
@[go_sem] theorem ti9 : tiOf Tryz.prog 9 = some ⟨.string, 1, 16, [.lit (.string ⟨#[]⟩)], []⟩ := by kernel_rfl
@[go_sem] theorem ti22 : tiOf Tryz.prog 22 = some ⟨.slice 83, 1, 24, [.sl []], []⟩ := by kernel_rfl
@[go_sem] theorem ti23 : tiOf Tryz.prog 23 = some ⟨.slice 31, 1, 24, [.sl []], []⟩ := by kernel_rfl
@[go_sem] theorem ti27 : tiOf Tryz.prog 27 = some ⟨.struct [(3, 0), (9, 1), (9, 2), (9, 3), (3, 4)], 5, 64, [.lit (.int .i64 0), .lit (.string ⟨#[]⟩), .lit (.string ⟨#[]⟩), .lit (.string ⟨#[]⟩), .lit (.int .i64 0)], [.int .i64, .string, .string, .string, .int .i64]⟩ := by kernel_rfl
@[go_sem] theorem ti29 : tiOf Tryz.prog 29 = some ⟨.struct [(3, 0), (3, 1), (27, 2)], 7, 80, [.lit (.int .i64 0), .lit (.int .i64 0), .lit (.int .i64 0), .lit (.string ⟨#[]⟩), .lit (.string ⟨#[]⟩), .lit (.string ⟨#[]⟩), .lit (.int .i64 0)], [.int .i64, .int .i64, .int .i64, .string, .string, .string, .int .i64]⟩ := by kernel_rfl
@[go_sem] theorem ti31 : tiOf Tryz.prog 31 = some ⟨.struct [(3, 0), (3, 1), (3, 2), (29, 3)], 10, 104, [.lit (.int .i64 0), .lit (.int .i64 0), .lit (.int .i64 0), .lit (.int .i64 0), .lit (.int .i64 0), .lit (.int .i64 0), .lit (.string ⟨#[]⟩), .lit (.string ⟨#[]⟩), .lit (.string ⟨#[]⟩), .lit (.int .i64 0)], [.int .i64, .int .i64, .int .i64, .int .i64, .int .i64, .int .i64, .string, .string, .string, .int .i64]⟩ := by kernel_rfl
@[go_sem] theorem ti32 : tiOf Tryz.prog 32 = some ⟨.slice 55, 1, 24, [.sl []], []⟩ := by kernel_rfl
@[go_sem] theorem ti33 : tiOf Tryz.prog 33 = some ⟨.slice 77, 1, 24, [.sl []], []⟩ := by kernel_rfl
@[go_sem] theorem ti34 : tiOf Tryz.prog 34 = some ⟨.slice 61, 1, 24, [.sl []], []⟩ := by kernel_rfl
@[go_sem] theorem ti36 : tiOf Tryz.prog 36 = some ⟨.struct [(32, 0), (33, 1), (34, 2), (3, 3)], 4, 80, [.sl [], .sl [], .sl [], .lit (.int .i64 0)], []⟩ := by kernel_rfl
@[go_sem] theorem ti37 : tiOf Tryz.prog 37 = some ⟨.int .i64, 1, 8, [.lit (.int .i64 0)], []⟩ := by kernel_rfl
@[go_sem] theorem ti41 : tiOf Tryz.prog 41 = some ⟨.slice 3, 1, 24, [.sl []], []⟩ := by kernel_rfl
@[go_sem] theorem ti45 : tiOf Tryz.prog 45 = some ⟨.slice 64, 1, 24, [.sl []], []⟩ := by kernel_rfl
@[go_sem] theorem ti47 : tiOf Tryz.prog 47 = some ⟨.struct [(3, 0), (3, 1), (45, 2)], 3, 40, [.lit (.int .i64 0), .lit (.int .i64 0), .sl []], []⟩ := by kernel_rfl
@[go_sem] theorem ti48 : tiOf Tryz.prog 48 = some ⟨.slice 93, 1, 24, [.sl []], []⟩ := by kernel_rfl
@[go_sem] theorem ti50 : tiOf Tryz.prog 50 = some ⟨.struct [(3, 0), (48, 1)], 2, 32, [.lit (.int .i64 0), .sl []], []⟩ := by kernel_rfl
@[go_sem] theorem ti51 : tiOf Tryz.prog 51 = some ⟨.slice 134, 1, 24, [.sl []], []⟩ := by kernel_rfl
@[go_sem] theorem ti53 : tiOf Tryz.prog 53 = some ⟨.struct [(50, 0), (3, 2), (51, 3)], 4, 64, [.lit (.int .i64 0), .sl [], .lit (.int .i64 0), .sl []], []⟩ := by kernel_rfl
@[go_sem] theorem ti55 : tiOf Tryz.prog 55 = some ⟨.struct [(4, 0), (3, 1), (4, 2), (3, 3), (47, 4), (53, 7)], 11, 136, [.lit (.bool false), .lit (.int .i64 0), .lit (.bool false), .lit (.int .i64 0), .lit (.int .i64 0), .lit (.int .i64 0), .sl [], .lit (.int .i64 0), .sl [], .lit (.int .i64 0), .sl []], []⟩ := by kernel_rfl
@[go_sem] theorem ti61 : tiOf Tryz.prog 61 = some ⟨.struct [(3, 0), (3, 1)], 2, 16, [.lit (.int .i64 0), .lit (.int .i64 0)], [.int .i64, .int .i64]⟩ := by kernel_rfl
@[go_sem] theorem ti64 : tiOf Tryz.prog 64 = some ⟨.struct [(3, 0), (3, 1), (4, 2), (29, 3)], 10, 104, [.lit (.int .i64 0), .lit (.int .i64 0), .lit (.bool false), .lit (.int .i64 0), .lit (.int .i64 0), .lit (.int .i64 0), .lit (.string ⟨#[]⟩), .lit (.string ⟨#[]⟩), .lit (.string ⟨#[]⟩), .lit (.int .i64 0)], [.int .i64, .int .i64, .bool, .int .i64, .int .i64, .int .i64, .string, .string, .string, .int .i64]⟩ := by kernel_rfl
@[go_sem] theorem ti71 : tiOf Tryz.prog 71 = some ⟨.slice 9, 1, 24, [.sl []], []⟩ := by kernel_rfl
@[go_sem] theorem ti73 : tiOf Tryz.prog 73 = some ⟨.struct [(37, 0), (9, 1), (3, 2), (71, 3)], 4, 56, [.lit (.int .i64 0), .lit (.string ⟨#[]⟩), .lit (.int .i64 0), .sl []], []⟩ := by kernel_rfl
@[go_sem] theorem ti77 : tiOf Tryz.prog 77 = some ⟨.struct [(3, 0), (29, 1), (73, 8)], 12, 144, [.lit (.int .i64 0), .lit (.int .i64 0), .lit (.int .i64 0), .lit (.int .i64 0), .lit (.string ⟨#[]⟩), .lit (.string ⟨#[]⟩), .lit (.string ⟨#[]⟩), .lit (.int .i64 0), .lit (.int .i64 0), .lit (.string ⟨#[]⟩), .lit (.int .i64 0), .sl []], []⟩ := by kernel_rfl
@[go_sem] theorem ti81 : tiOf Tryz.prog 81 = some ⟨.struct [(3, 0), (3, 1), (3, 2), (3, 3), (9, 4)], 5, 48, [.lit (.int .i64 0), .lit (.int .i64 0), .lit (.int .i64 0), .lit (.int .i64 0), .lit (.string ⟨#[]⟩)], [.int .i64, .int .i64, .int .i64, .int .i64, .string]⟩ := by kernel_rfl
@[go_sem] theorem ti83 : tiOf Tryz.prog 83 = some ⟨.struct [(3, 0), (3, 1), (3, 2), (81, 3)], 8, 72, [.lit (.int .i64 0), .lit (.int .i64 0), .lit (.int .i64 0), .lit (.int .i64 0), .lit (.int .i64 0), .lit (.int .i64 0), .lit (.int .i64 0), .lit (.string ⟨#[]⟩)], [.int .i64, .int .i64, .int .i64, .int .i64, .int .i64, .int .i64, .int .i64, .string]⟩ := by kernel_rfl
@[go_sem] theorem ti88 : tiOf Tryz.prog 88 = some ⟨.slice 151, 1, 24, [.sl []], []⟩ := by kernel_rfl
@[go_sem] theorem ti89 : tiOf Tryz.prog 89 = some ⟨.slice 154, 1, 24, [.sl []], []⟩ := by kernel_rfl
@[go_sem] theorem ti91 : tiOf Tryz.prog 91 = some ⟨.struct [(3, 0), (9, 1), (3, 2), (88, 3), (71, 4), (89, 5)], 6, 104, [.lit (.int .i64 0), .lit (.string ⟨#[]⟩), .lit (.int .i64 0), .sl [], .sl [], .sl []], []⟩ := by kernel_rfl
@[go_sem] theorem ti93 : tiOf Tryz.prog 93 = some ⟨.struct [(9, 0), (91, 1), (3, 7)], 8, 128, [.lit (.string ⟨#[]⟩), .lit (.int .i64 0), .lit (.string ⟨#[]⟩), .lit (.int .i64 0), .sl [], .sl [], .sl [], .lit (.int .i64 0)], []⟩ := by kernel_rfl
@[go_sem] theorem ti99 : tiOf Tryz.prog 99 = some ⟨.pointer 113, 1, 8, [.lit (.pointer none)], []⟩ := by kernel_rfl
@[go_sem] theorem ti101 : tiOf Tryz.prog 101 = some ⟨.struct [(3, 0), (3, 1), (53, 2)], 6, 80, [.lit (.int .i64 0), .lit (.int .i64 0), .lit (.int .i64 0), .sl [], .lit (.int .i64 0), .sl []], []⟩ := by kernel_rfl
@[go_sem] theorem ti102 : tiOf Tryz.prog 102 = some ⟨.array 3 4, 3, 3, [.lit (.bool false), .lit (.bool false), .lit (.bool false)], []⟩ := by kernel_rfl
@[go_sem] theorem ti103 : tiOf Tryz.prog 103 = some ⟨.array 3 3, 3, 24, [.lit (.int .i64 0), .lit (.int .i64 0), .lit (.int .i64 0)], []⟩ := by kernel_rfl
@[go_sem] theorem ti104 : tiOf Tryz.prog 104 = some ⟨.slice 176, 1, 24, [.sl []], []⟩ := by kernel_rfl
@[go_sem] theorem ti105 : tiOf Tryz.prog 105 = some ⟨.slice 5, 1, 24, [.sl []], []⟩ := by kernel_rfl
@[go_sem] theorem ti107 : tiOf Tryz.prog 107 = some ⟨.struct [(105, 0), (3, 1)], 2, 32, [.sl [], .lit (.int .i64 0)], []⟩ := by kernel_rfl
@[go_sem] theorem ti108 : tiOf Tryz.prog 108 = some ⟨.slice 144, 1, 24, [.sl []], []⟩ := by kernel_rfl
@[go_sem] theorem ti110 : tiOf Tryz.prog 110 = some ⟨.struct [(3, 0), (4, 1), (3, 2), (3, 3), (3, 4), (3, 5), (47, 6), (101, 9), (53, 15), (3, 19), (102, 20), (103, 23), (103, 26), (104, 29), (107, 30), (108, 32)], 33, 376, [.lit (.int .i64 0), .lit (.bool false), .lit (.int .i64 0), .lit (.int .i64 0), .lit (.int .i64 0), .lit (.int .i64 0), .lit (.int .i64 0), .lit (.int .i64 0), .sl [], .lit (.int .i64 0), .lit (.int .i64 0), .lit (.int .i64 0), .sl [], .lit (.int .i64 0), .sl [], .lit (.int .i64 0), .sl [], .lit (.int .i64 0), .sl [], .lit (.int .i64 0), .lit (.bool false), .lit (.bool false), .lit (.bool false), .lit (.int .i64 0), .lit (.int .i64 0), .lit (.int .i64 0), .lit (.int .i64 0), .lit (.int .i64 0), .lit (.int .i64 0), .sl [], .sl [], .lit (.int .i64 0), .sl []], []⟩ := by kernel_rfl
@[go_sem] theorem ti111 : tiOf Tryz.prog 111 = some ⟨.array 3 110, 99, 1128, [.lit (.int .i64 0), .lit (.bool false), .lit (.int .i64 0), .lit (.int .i64 0), .lit (.int .i64 0), .lit (.int .i64 0), .lit (.int .i64 0), .lit (.int .i64 0), .sl [], .lit (.int .i64 0), .lit (.int .i64 0), .lit (.int .i64 0), .sl [], .lit (.int .i64 0), .sl [], .lit (.int .i64 0), .sl [], .lit (.int .i64 0), .sl [], .lit (.int .i64 0), .lit (.bool false), .lit (.bool false), .lit (.bool false), .lit (.int .i64 0), .lit (.int .i64 0), .lit (.int .i64 0), .lit (.int .i64 0), .lit (.int .i64 0), .lit (.int .i64 0), .sl [], .sl [], .lit (.int .i64 0), .sl [], .lit (.int .i64 0), .lit (.bool false), .lit (.int .i64 0), .lit (.int .i64 0), .lit (.int .i64 0), .lit (.int .i64 0), .lit (.int .i64 0), .lit (.int .i64 0), .sl [], .lit (.int .i64 0), .lit (.int .i64 0), .lit (.int .i64 0), .sl [], .lit (.int .i64 0), .sl [], .lit (.int .i64 0), .sl [], .lit (.int .i64 0), .sl [], .lit (.int .i64 0), .lit (.bool false), .lit (.bool false), .lit (.bool false), .lit (.int .i64 0), .lit (.int .i64 0), .lit (.int .i64 0), .lit (.int .i64 0), .lit (.int .i64 0), .lit (.int .i64 0), .sl [], .sl [], .lit (.int .i64 0), .sl [], .lit (.int .i64 0), .lit (.bool false), .lit (.int .i64 0), .lit (.int .i64 0), .lit (.int .i64 0), .lit (.int .i64 0), .lit (.int .i64 0), .lit (.int .i64 0), .sl [], .lit (.int .i64 0), .lit (.int .i64 0), .lit (.int .i64 0), .sl [], .lit (.int .i64 0), .sl [], .lit (.int .i64 0), .sl [], .lit (.int .i64 0), .sl [], .lit (.int .i64 0), .lit (.bool false), .lit (.bool false), .lit (.bool false), .lit (.int .i64 0), .lit (.int .i64 0), .lit (.int .i64 0), .lit (.int .i64 0), .lit (.int .i64 0), .lit (.int .i64 0), .sl [], .sl [], .lit (.int .i64 0), .sl []], []⟩ := by kernel_rfl
@[go_sem] theorem ti113 : tiOf Tryz.prog 113 = some ⟨.struct [(111, 0), (108, 99), (33, 100), (34, 101)], 102, 1200, [.lit (.int .i64 0), .lit (.bool false), .lit (.int .i64 0), .lit (.int .i64 0), .lit (.int .i64 0), .lit (.int .i64 0), .lit (.int .i64 0), .lit (.int .i64 0), .sl [], .lit (.int .i64 0), .lit (.int .i64 0), .lit (.int .i64 0), .sl [], .lit (.int .i64 0), .sl [], .lit (.int .i64 0), .sl [], .lit (.int .i64 0), .sl [], .lit (.int .i64 0), .lit (.bool false), .lit (.bool false), .lit (.bool false), .lit (.int .i64 0), .lit (.int .i64 0), .lit (.int .i64 0), .lit (.int .i64 0), .lit (.int .i64 0), .lit (.int .i64 0), .sl [], .sl [], .lit (.int .i64 0), .sl [], .lit (.int .i64 0), .lit (.bool false), .lit (.int .i64 0), .lit (.int .i64 0), .lit (.int .i64 0), .lit (.int .i64 0), .lit (.int .i64 0), .lit (.int .i64 0), .sl [], .lit (.int .i64 0), .lit (.int .i64 0), .lit (.int .i64 0), .sl [], .lit (.int .i64 0), .sl [], .lit (.int .i64 0), .sl [], .lit (.int .i64 0), .sl [], .lit (.int .i64 0), .lit (.bool false), .lit (.bool false), .lit (.bool false), .lit (.int .i64 0), .lit (.int .i64 0), .lit (.int .i64 0), .lit (.int .i64 0), .lit (.int .i64 0), .lit (.int .i64 0), .sl [], .sl [], .lit (.int .i64 0), .sl [], .lit (.int .i64 0), .lit (.bool false), .lit (.int .i64 0), .lit (.int .i64 0), .lit (.int .i64 0), .lit (.int .i64 0), .lit (.int .i64 0), .lit (.int .i64 0), .sl [], .lit (.int .i64 0), .lit (.int .i64 0), .lit (.int .i64 0), .sl [], .lit (.int .i64 0), .sl [], .lit (.int .i64 0), .sl [], .lit (.int .i64 0), .sl [], .lit (.int .i64 0), .lit (.bool false), .lit (.bool false), .lit (.bool false), .lit (.int .i64 0), .lit (.int .i64 0), .lit (.int .i64 0), .lit (.int .i64 0), .lit (.int .i64 0), .lit (.int .i64 0), .sl [], .sl [], .lit (.int .i64 0), .sl [], .sl [], .sl [], .sl []], []⟩ := by kernel_rfl
@[go_sem] theorem ti116 : tiOf Tryz.prog 116 = some ⟨.struct [(3, 0), (3, 1), (101, 2), (47, 8)], 11, 136, [.lit (.int .i64 0), .lit (.int .i64 0), .lit (.int .i64 0), .lit (.int .i64 0), .lit (.int .i64 0), .sl [], .lit (.int .i64 0), .sl [], .lit (.int .i64 0), .lit (.int .i64 0), .sl []], []⟩ := by kernel_rfl
@[go_sem] theorem ti121 : tiOf Tryz.prog 121 = some ⟨.other, 1, 8, [.lit .nilFunc], []⟩ := by kernel_rfl
@[go_sem] theorem ti131 : tiOf Tryz.prog 131 = some ⟨.pointer 53, 1, 8, [.lit (.pointer none)], []⟩ := by kernel_rfl
@[go_sem] theorem ti134 : tiOf Tryz.prog 134 = some ⟨.struct [(3, 0), (3, 1), (3, 2), (73, 3)], 7, 80, [.lit (.int .i64 0), .lit (.int .i64 0), .lit (.int .i64 0), .lit (.int .i64 0), .lit (.string ⟨#[]⟩), .lit (.int .i64 0), .sl []], []⟩ := by kernel_rfl
@[go_sem] theorem ti135 : tiOf Tryz.prog 135 = some ⟨.other, 1, 8, [.lit .nilFunc], []⟩ := by kernel_rfl
@[go_sem] theorem ti141 : tiOf Tryz.prog 141 = some ⟨.pointer 110, 1, 8, [.lit (.pointer none)], []⟩ := by kernel_rfl
@[go_sem] theorem ti144 : tiOf Tryz.prog 144 = some ⟨.struct [(3, 0), (3, 1), (3, 2), (3, 3), (3, 4), (3, 5), (4, 6), (3, 7), (45, 8), (101, 9)], 15, 168, [.lit (.int .i64 0), .lit (.int .i64 0), .lit (.int .i64 0), .lit (.int .i64 0), .lit (.int .i64 0), .lit (.int .i64 0), .lit (.bool false), .lit (.int .i64 0), .sl [], .lit (.int .i64 0), .lit (.int .i64 0), .lit (.int .i64 0), .sl [], .lit (.int .i64 0), .sl []], []⟩ := by kernel_rfl
@[go_sem] theorem ti151 : tiOf Tryz.prog 151 = some ⟨.struct [(9, 0), (9, 1)], 2, 32, [.lit (.string ⟨#[]⟩), .lit (.string ⟨#[]⟩)], [.string, .string]⟩ := by kernel_rfl
@[go_sem] theorem ti154 : tiOf Tryz.prog 154 = some ⟨.struct [(9, 0), (3, 1)], 2, 24, [.lit (.string ⟨#[]⟩), .lit (.int .i64 0)], [.string, .int .i64]⟩ := by kernel_rfl
@[go_sem] theorem ti160 : tiOf Tryz.prog 160 = some ⟨.pointer 163, 1, 8, [.lit (.pointer none)], []⟩ := by kernel_rfl
@[go_sem] theorem ti163 : tiOf Tryz.prog 163 = some ⟨.struct [(50, 0), (3, 2), (4, 3)], 4, 48, [.lit (.int .i64 0), .sl [], .lit (.int .i64 0), .lit (.bool false)], []⟩ := by kernel_rfl
@[go_sem] theorem ti165 : tiOf Tryz.prog 165 = some ⟨.other, 1, 8, [.lit .nilFunc], []⟩ := by kernel_rfl
@[go_sem] theorem ti176 : tiOf Tryz.prog 176 = some ⟨.struct [(3, 0), (3, 1), (29, 2)], 9, 96, [.lit (.int .i64 0), .lit (.int .i64 0), .lit (.int .i64 0), .lit (.int .i64 0), .lit (.int .i64 0), .lit (.string ⟨#[]⟩), .lit (.string ⟨#[]⟩), .lit (.string ⟨#[]⟩), .lit (.int .i64 0)], [.int .i64, .int .i64, .int .i64, .int .i64, .int .i64, .string, .string, .string, .int .i64]⟩ := by kernel_rfl
@[go_sem] theorem ti187 : tiOf Tryz.prog 187 = some ⟨.other, 1, 8, [.lit .nilFunc], []⟩ := by kernel_rfl
@[go_sem] theorem ti199 : tiOf Tryz.prog 199 = some ⟨.struct [(3, 0), (3, 1), (3, 2), (3, 3), (64, 4), (101, 14)], 20, 216, [.lit (.int .i64 0), .lit (.int .i64 0), .lit (.int .i64 0), .lit (.int .i64 0), .lit (.int .i64 0), .lit (.int .i64 0), .lit (.bool false), .lit (.int .i64 0), .lit (.int .i64 0), .lit (.int .i64 0), .lit (.string ⟨#[]⟩), .lit (.string ⟨#[]⟩), .lit (.string ⟨#[]⟩), .lit (.int .i64 0), .lit (.int .i64 0), .lit (.int .i64 0), .lit (.int .i64 0), .sl [], .lit (.int .i64 0), .sl []], []⟩ := by kernel_rfl
@[go_sem] theorem ti214 : tiOf Tryz.prog 214 = some ⟨.slice 199, 1, 24, [.sl []], []⟩ := by kernel_rfl
@[go_sem] theorem ti220 : tiOf Tryz.prog 220 = some ⟨.int .u64, 1, 8, [.lit (.int .u64 0)], []⟩ := by kernel_rfl
@[go_sem] theorem ti223 : tiOf Tryz.prog 223 = some ⟨.other, 1, 8, [.lit .nilFunc], []⟩ := by kernel_rfl
@[go_sem] theorem ti225 : tiOf Tryz.prog 225 = some ⟨.other, 1, 8, [.lit .nilFunc], []⟩ := by kernel_rfl
@[go_sem] theorem ti227 : tiOf Tryz.prog 227 = some ⟨.other, 1, 8, [.lit .nilFunc], []⟩ := by kernel_rfl
@[go_sem] theorem ti229 : tiOf Tryz.prog 229 = some ⟨.other, 1, 8, [.lit .nilFunc], []⟩ := by kernel_rfl
@[go_sem] theorem ti231 : tiOf Tryz.prog 231 = some ⟨.other, 1, 8, [.lit .nilFunc], []⟩ := by kernel_rfl
@[go_sem] theorem ti236 : tiOf Tryz.prog 236 = some ⟨.other, 1, 8, [.lit .nilFunc], []⟩ := by kernel_rfl
@[go_sem] theorem ti243 : tiOf Tryz.prog 243 = some ⟨.pointer 91, 1, 8, [.lit (.pointer none)], []⟩ := by kernel_rfl
@[go_sem] theorem ti274 : tiOf Tryz.prog 274 = some ⟨.pointer 276, 1, 8, [.lit (.pointer none)], []⟩ := by kernel_rfl
@[go_sem] theorem ti276 : tiOf Tryz.prog 276 = some ⟨.struct [(105, 0)], 1, 24, [.sl []], []⟩ := by kernel_rfl
@[go_sem] theorem ti279 : tiOf Tryz.prog 279 = some ⟨.pointer 281, 1, 8, [.lit (.pointer none)], []⟩ := by kernel_rfl
@[go_sem] theorem ti281 : tiOf Tryz.prog 281 = some ⟨.struct [(105, 0), (4, 1)], 2, 32, [.sl [], .lit (.bool false)], []⟩ := by kernel_rfl
@[go_sem] theorem ti298 : tiOf Tryz.prog 298 = some ⟨.slice 105, 1, 24, [.sl []], []⟩ := by kernel_rfl
@[go_sem] theorem ti301 : tiOf Tryz.prog 301 = some ⟨.int .u64, 1, 8, [.lit (.int .u64 0)], []⟩ := by kernel_rfl
@[go_sem] theorem u8_5 : isU8 Tryz.prog 5 = true := by kernel_rfl
@[go_sem] theorem en3 : enters Tryz.prog 3 = true := by kernel_rfl
@[go_sem] theorem en4 : enters Tryz.prog 4 = true := by kernel_rfl
@[go_sem] theorem en5 : enters Tryz.prog 5 = true := by kernel_rfl
@[go_sem] theorem en6 : enters Tryz.prog 6 = true := by kernel_rfl
@[go_sem] theorem en7 : enters Tryz.prog 7 = true := by kernel_rfl
@[go_sem] theorem en8 : enters Tryz.prog 8 = true := by kernel_rfl
@[go_sem] theorem en9 : enters Tryz.prog 9 = true := by kernel_rfl
@[go_sem] theorem en10 : enters Tryz.prog 10 = true := by kernel_rfl
@[go_sem] theorem en11 : enters Tryz.prog 11 = true := by kernel_rfl
@[go_sem] theorem en12 : enters Tryz.prog 12 = true := by kernel_rfl
@[go_sem] theorem en13 : enters Tryz.prog 13 = true := by kernel_rfl
@[go_sem] theorem en14 : enters Tryz.prog 14 = true := by kernel_rfl
@[go_sem] theorem en15 : enters Tryz.prog 15 = true := by kernel_rfl
@[go_sem] theorem en16 : enters Tryz.prog 16 = true := by kernel_rfl
@[go_sem] theorem en17 : enters Tryz.prog 17 = true := by kernel_rfl
@[go_sem] theorem en18 : enters Tryz.prog 18 = true := by kernel_rfl
@[go_sem] theorem en19 : enters Tryz.prog 19 = true := by kernel_rfl
@[go_sem] theorem en20 : enters Tryz.prog 20 = true := by kernel_rfl
@[go_sem] theorem en21 : enters Tryz.prog 21 = true := by kernel_rfl
@[go_sem] theorem en22 : enters Tryz.prog 22 = true := by kernel_rfl
@[go_sem] theorem en23 : enters Tryz.prog 23 = true := by kernel_rfl
@[go_sem] theorem en24 : enters Tryz.prog 24 = true := by kernel_rfl
@[go_sem] theorem en25 : enters Tryz.prog 25 = true := by kernel_rfl
@[go_sem] theorem en26 : enters Tryz.prog 26 = true := by kernel_rfl
@[go_sem] theorem en27 : enters Tryz.prog 27 = true := by kernel_rfl
@[go_sem] theorem en28 : enters Tryz.prog 28 = true := by kernel_rfl
@[go_sem] theorem en29 : enters Tryz.prog 29 = true := by kernel_rfl
@[go_sem] theorem en30 : enters Tryz.prog 30 = true := by kernel_rfl
@[go_sem] theorem en31 : enters Tryz.prog 31 = true := by kernel_rfl
@[go_sem] theorem en32 : enters Tryz.prog 32 = true := by kernel_rfl
@[go_sem] theorem en33 : enters Tryz.prog 33 = true := by kernel_rfl
@[go_sem] theorem en34 : enters Tryz.prog 34 = true := by kernel_rfl
@[go_sem] theorem en35 : enters Tryz.prog 35 = true := by kernel_rfl
@[go_sem] theorem en36 : enters Tryz.prog 36 = true := by kernel_rfl
@[go_sem] theorem en37 : enters Tryz.prog 37 = true := by kernel_rfl
@[go_sem] theorem en38 : enters Tryz.prog 38 = true := by kernel_rfl
@[go_sem] theorem en39 : enters Tryz.prog 39 = true := by kernel_rfl
@[go_sem] theorem en40 : enters Tryz.prog 40 = true := by kernel_rfl
@[go_sem] theorem en41 : enters Tryz.prog 41 = true := by kernel_rfl
@[go_sem] theorem en42 : enters Tryz.prog 42 = true := by kernel_rfl
@[go_sem] theorem en43 : enters Tryz.prog 43 = true := by kernel_rfl
@[go_sem] theorem en44 : enters Tryz.prog 44 = true := by kernel_rfl
@[go_sem] theorem en45 : enters Tryz.prog 45 = true := by kernel_rfl
@[go_sem] theorem en46 : enters Tryz.prog 46 = true := by kernel_rfl
@[go_sem] theorem en47 : enters Tryz.prog 47 = true := by kernel_rfl
@[go_sem] theorem en48 : enters Tryz.prog 48 = true := by kernel_rfl
@[go_sem] theorem en49 : enters Tryz.prog 49 = true := by kernel_rfl
@[go_sem] theorem en50 : enters Tryz.prog 50 = true := by kernel_rfl
@[go_sem] theorem en51 : enters Tryz.prog 51 = true := by kernel_rfl
@[go_sem] theorem en52 : enters Tryz.prog 52 = true := by kernel_rfl
@[go_sem] theorem en53 : enters Tryz.prog 53 = true := by kernel_rfl
@[go_sem] theorem en54 : enters Tryz.prog 54 = true := by kernel_rfl
@[go_sem] theorem en55 : enters Tryz.prog 55 = true := by kernel_rfl
@[go_sem] theorem en56 : enters Tryz.prog 56 = true := by kernel_rfl
@[go_sem] theorem en57 : enters Tryz.prog 57 = true := by kernel_rfl
@[go_sem] theorem en58 : enters Tryz.prog 58 = true := by kernel_rfl
@[go_sem] theorem en59 : enters Tryz.prog 59 = true := by kernel_rfl
@[go_sem] theorem en60 : enters Tryz.prog 60 = true := by kernel_rfl
@[go_sem] theorem en61 : enters Tryz.prog 61 = true := by kernel_rfl
@[go_sem] theorem en62 : enters Tryz.prog 62 = true := by kernel_rfl
@[go_sem] theorem en63 : enters Tryz.prog 63 = true := by kernel_rfl
@[go_sem] theorem en64 : enters Tryz.prog 64 = true := by kernel_rfl
@[go_sem] theorem en65 : enters Tryz.prog 65 = true := by kernel_rfl
@[go_sem] theorem en66 : enters Tryz.prog 66 = true := by kernel_rfl
@[go_sem] theorem en67 : enters Tryz.prog 67 = true := by kernel_rfl
@[go_sem] theorem en68 : enters Tryz.prog 68 = true := by kernel_rfl
@[go_sem] theorem en69 : enters Tryz.prog 69 = true := by kernel_rfl
@[go_sem] theorem en70 : enters Tryz.prog 70 = true := by kernel_rfl
@[go_sem] theorem en71 : enters Tryz.prog 71 = true := by kernel_rfl
@[go_sem] theorem en72 : enters Tryz.prog 72 = true := by kernel_rfl
@[go_sem] theorem en73 : enters Tryz.prog 73 = true := by kernel_rfl
@[go_sem] theorem en74 : enters Tryz.prog 74 = true := by kernel_rfl
@[go_sem] theorem en75 : enters Tryz.prog 75 = true := by kernel_rfl
@[go_sem] theorem en76 : enters Tryz.prog 76 = true := by kernel_rfl
@[go_sem] theorem en77 : enters Tryz.prog 77 = true := by kernel_rfl
@[go_sem] theorem en78 : enters Tryz.prog 78 = true := by kernel_rfl
@[go_sem] theorem en79 : enters Tryz.prog 79 = true := by kernel_rfl
@[go_sem] theorem en80 : enters Tryz.prog 80 = true := by kernel_rfl
@[go_sem] theorem en81 : enters Tryz.prog 81 = true := by kernel_rfl
@[go_sem] theorem en82 : enters Tryz.prog 82 = true := by kernel_rfl
@[go_sem] theorem en83 : enters Tryz.prog 83 = true := by kernel_rfl
@[go_sem] theorem en84 : enters Tryz.prog 84 = true := by kernel_rfl
@[go_sem] theorem en85 : enters Tryz.prog 85 = true := by kernel_rfl
@[go_sem] theorem en86 : enters Tryz.prog 86 = true := by kernel_rfl
@[go_sem] theorem en87 : enters Tryz.prog 87 = true := by kernel_rfl
@[go_sem] theorem en88 : enters Tryz.prog 88 = true := by kernel_rfl
@[go_sem] theorem en89 : enters Tryz.prog 89 = true := by kernel_rfl
@[go_sem] theorem en90 : enters Tryz.prog 90 = true := by kernel_rfl
@[go_sem] theorem en91 : enters Tryz.prog 91 = true := by kernel_rfl
@[go_sem] theorem en92 : enters Tryz.prog 92 = true := by kernel_rfl
@[go_sem] theorem en93 : enters Tryz.prog 93 = true := by kernel_rfl
@[go_sem] theorem en94 : enters Tryz.prog 94 = true := by kernel_rfl
@[go_sem] theorem en95 : enters Tryz.prog 95 = true := by kernel_rfl
@[go_sem] theorem en96 : enters Tryz.prog 96 = true := by kernel_rfl
@[go_sem] theorem en97 : enters Tryz.prog 97 = true := by kernel_rfl
@[go_sem] theorem en98 : enters Tryz.prog 98 = true := by kernel_rfl
@[go_sem] theorem en99 : enters Tryz.prog 99 = true := by kernel_rfl
@[go_sem] theorem en100 : enters Tryz.prog 100 = true := by kernel_rfl
@[go_sem] theorem en101 : enters Tryz.prog 101 = true := by kernel_rfl
@[go_sem] theorem en102 : enters Tryz.prog 102 = true := by kernel_rfl
@[go_sem] theorem en103 : enters Tryz.prog 103 = true := by kernel_rfl
@[go_sem] theorem en104 : enters Tryz.prog 104 = true := by kernel_rfl
@[go_sem] theorem en105 : enters Tryz.prog 105 = true := by kernel_rfl
@[go_sem] theorem en106 : enters Tryz.prog 106 = true := by kernel_rfl
@[go_sem] theorem en107 : enters Tryz.prog 107 = true := by kernel_rfl
@[go_sem] theorem en108 : enters Tryz.prog 108 = true := by kernel_rfl
@[go_sem] theorem en109 : enters Tryz.prog 109 = true := by kernel_rfl
@[go_sem] theorem en110 : enters Tryz.prog 110 = true := by kernel_rfl
@[go_sem] theorem en111 : enters Tryz.prog 111 = true := by kernel_rfl
@[go_sem] theorem en112 : enters Tryz.prog 112 = true := by kernel_rfl
@[go_sem] theorem en113 : enters Tryz.prog 113 = true := by kernel_rfl
@[go_sem] theorem en114 : enters Tryz.prog 114 = true := by kernel_rfl
@[go_sem] theorem en115 : enters Tryz.prog 115 = true := by kernel_rfl
@[go_sem] theorem en116 : enters Tryz.prog 116 = true := by kernel_rfl
@[go_sem] theorem en117 : enters Tryz.prog 117 = true := by kernel_rfl
@[go_sem] theorem en118 : enters Tryz.prog 118 = true := by kernel_rfl
@[go_sem] theorem en119 : enters Tryz.prog 119 = true := by kernel_rfl
@[go_sem] theorem en120 : enters Tryz.prog 120 = true := by kernel_rfl
@[go_sem] theorem en121 : enters Tryz.prog 121 = true := by kernel_rfl
@[go_sem] theorem en122 : enters Tryz.prog 122 = true := by kernel_rfl
@[go_sem] theorem en123 : enters Tryz.prog 123 = true := by kernel_rfl
@[go_sem] theorem en124 : enters Tryz.prog 124 = true := by kernel_rfl
@[go_sem] theorem en125 : enters Tryz.prog 125 = true := by kernel_rfl
@[go_sem] theorem en126 : enters Tryz.prog 126 = true := by kernel_rfl
@[go_sem] theorem en127 : enters Tryz.prog 127 = true := by kernel_rfl
@[go_sem] theorem en128 : enters Tryz.prog 128 = true := by kernel_rfl
@[go_sem] theorem en129 : enters Tryz.prog 129 = true := by kernel_rfl
@[go_sem] theorem en130 : enters Tryz.prog 130 = true := by kernel_rfl
@[go_sem] theorem en131 : enters Tryz.prog 131 = true := by kernel_rfl
@[go_sem] theorem en132 : enters Tryz.prog 132 = true := by kernel_rfl
@[go_sem] theorem en133 : enters Tryz.prog 133 = true := by kernel_rfl
@[go_sem] theorem en134 : enters Tryz.prog 134 = true := by kernel_rfl
@[go_sem] theorem en135 : enters Tryz.prog 135 = true := by kernel_rfl
@[go_sem] theorem en136 : enters Tryz.prog 136 = true := by kernel_rfl
@[go_sem] theorem en137 : enters Tryz.prog 137 = true := by kernel_rfl
@[go_sem] theorem en138 : enters Tryz.prog 138 = true := by kernel_rfl
@[go_sem] theorem en139 : enters Tryz.prog 139 = true := by kernel_rfl
@[go_sem] theorem en140 : enters Tryz.prog 140 = true := by kernel_rfl
@[go_sem] theorem en141 : enters Tryz.prog 141 = true := by kernel_rfl
@[go_sem] theorem en142 : enters Tryz.prog 142 = true := by kernel_rfl
@[go_sem] theorem en143 : enters Tryz.prog 143 = true := by kernel_rfl
@[go_sem] theorem en144 : enters Tryz.prog 144 = true := by kernel_rfl
@[go_sem] theorem en145 : enters Tryz.prog 145 = true := by kernel_rfl
@[go_sem] theorem en146 : enters Tryz.prog 146 = true := by kernel_rfl
@[go_sem] theorem en147 : enters Tryz.prog 147 = true := by kernel_rfl
@[go_sem] theorem en148 : enters Tryz.prog 148 = true := by kernel_rfl
@[go_sem] theorem en149 : enters Tryz.prog 149 = true := by kernel_rfl
@[go_sem] theorem en150 : enters Tryz.prog 150 = true := by kernel_rfl
@[go_sem] theorem en151 : enters Tryz.prog 151 = true := by kernel_rfl
@[go_sem] theorem en152 : enters Tryz.prog 152 = true := by kernel_rfl
@[go_sem] theorem en153 : enters Tryz.prog 153 = true := by kernel_rfl
@[go_sem] theorem en154 : enters Tryz.prog 154 = true := by kernel_rfl
@[go_sem] theorem en155 : enters Tryz.prog 155 = true := by kernel_rfl
@[go_sem] theorem en156 : enters Tryz.prog 156 = true := by kernel_rfl
@[go_sem] theorem en157 : enters Tryz.prog 157 = true := by kernel_rfl
@[go_sem] theorem en158 : enters Tryz.prog 158 = true := by kernel_rfl
@[go_sem] theorem en159 : enters Tryz.prog 159 = true := by kernel_rfl
@[go_sem] theorem en160 : enters Tryz.prog 160 = true := by kernel_rfl
@[go_sem] theorem en161 : enters Tryz.prog 161 = true := by kernel_rfl
@[go_sem] theorem en162 : enters Tryz.prog 162 = true := by kernel_rfl
@[go_sem] theorem en163 : enters Tryz.prog 163 = true := by kernel_rfl
@[go_sem] theorem en164 : enters Tryz.prog 164 = true := by kernel_rfl
@[go_sem] theorem en165 : enters Tryz.prog 165 = true := by kernel_rfl
@[go_sem] theorem en166 : enters Tryz.prog 166 = true := by kernel_rfl
@[go_sem] theorem en167 : enters Tryz.prog 167 = true := by kernel_rfl
@[go_sem] theorem en168 : enters Tryz.prog 168 = true := by kernel_rfl
@[go_sem] theorem en169 : enters Tryz.prog 169 = true := by kernel_rfl
@[go_sem] theorem en170 : enters Tryz.prog 170 = true := by kernel_rfl
@[go_sem] theorem en171 : enters Tryz.prog 171 = true := by kernel_rfl
@[go_sem] theorem en172 : enters Tryz.prog 172 = true := by kernel_rfl
@[go_sem] theorem en173 : enters Tryz.prog 173 = true := by kernel_rfl
@[go_sem] theorem en174 : enters Tryz.prog 174 = true := by kernel_rfl
@[go_sem] theorem en175 : enters Tryz.prog 175 = true := by kernel_rfl
@[go_sem] theorem en176 : enters Tryz.prog 176 = true := by kernel_rfl
@[go_sem] theorem en177 : enters Tryz.prog 177 = true := by kernel_rfl
@[go_sem] theorem en178 : enters Tryz.prog 178 = true := by kernel_rfl
@[go_sem] theorem en179 : enters Tryz.prog 179 = true := by kernel_rfl
@[go_sem] theorem en181 : enters Tryz.prog 181 = true := by kernel_rfl
@[go_sem] theorem en182 : enters Tryz.prog 182 = true := by kernel_rfl
@[go_sem] theorem en183 : enters Tryz.prog 183 = true := by kernel_rfl
@[go_sem] theorem en184 : enters Tryz.prog 184 = true := by kernel_rfl
@[go_sem] theorem en185 : enters Tryz.prog 185 = true := by kernel_rfl
@[go_sem] theorem en186 : enters Tryz.prog 186 = true := by kernel_rfl
@[go_sem] theorem en187 : enters Tryz.prog 187 = true := by kernel_rfl
@[go_sem] theorem en188 : enters Tryz.prog 188 = true := by kernel_rfl
@[go_sem] theorem en189 : enters Tryz.prog 189 = true := by kernel_rfl
@[go_sem] theorem en190 : enters Tryz.prog 190 = true := by kernel_rfl
@[go_sem] theorem en191 : enters Tryz.prog 191 = true := by kernel_rfl
@[go_sem] theorem en192 : enters Tryz.prog 192 = true := by kernel_rfl
@[go_sem] theorem en193 : enters Tryz.prog 193 = true := by kernel_rfl
@[go_sem] theorem en194 : enters Tryz.prog 194 = true := by kernel_rfl
@[go_sem] theorem en195 : enters Tryz.prog 195 = true := by kernel_rfl
@[go_sem] theorem en196 : enters Tryz.prog 196 = true := by kernel_rfl
@[go_sem] theorem en197 : enters Tryz.prog 197 = true := by kernel_rfl
@[go_sem] theorem en198 : enters Tryz.prog 198 = true := by kernel_rfl
@[go_sem] theorem en199 : enters Tryz.prog 199 = true := by kernel_rfl
@[go_sem] theorem en200 : enters Tryz.prog 200 = true := by kernel_rfl
@[go_sem] theorem en201 : enters Tryz.prog 201 = true := by kernel_rfl
@[go_sem] theorem en202 : enters Tryz.prog 202 = true := by kernel_rfl
@[go_sem] theorem en203 : enters Tryz.prog 203 = true := by kernel_rfl
@[go_sem] theorem en205 : enters Tryz.prog 205 = true := by kernel_rfl
@[go_sem] theorem en206 : enters Tryz.prog 206 = true := by kernel_rfl
@[go_sem] theorem en207 : enters Tryz.prog 207 = true := by kernel_rfl
@[go_sem] theorem en208 : enters Tryz.prog 208 = true := by kernel_rfl
@[go_sem] theorem en209 : enters Tryz.prog 209 = true := by kernel_rfl
@[go_sem] theorem en210 : enters Tryz.prog 210 = true := by kernel_rfl
@[go_sem] theorem en211 : enters Tryz.prog 211 = true := by kernel_rfl
@[go_sem] theorem en212 : enters Tryz.prog 212 = true := by kernel_rfl
@[go_sem] theorem en213 : enters Tryz.prog 213 = true := by kernel_rfl
@[go_sem] theorem en214 : enters Tryz.prog 214 = true := by kernel_rfl
@[go_sem] theorem en216 : enters Tryz.prog 216 = true := by kernel_rfl
@[go_sem] theorem en217 : enters Tryz.prog 217 = true := by kernel_rfl
@[go_sem] theorem en218 : enters Tryz.prog 218 = true := by kernel_rfl
@[go_sem] theorem en219 : enters Tryz.prog 219 = true := by kernel_rfl
@[go_sem] theorem en220 : enters Tryz.prog 220 = true := by kernel_rfl
@[go_sem] theorem en221 : enters Tryz.prog 221 = true := by kernel_rfl
@[go_sem] theorem en222 : enters Tryz.prog 222 = true := by kernel_rfl
@[go_sem] theorem en224 : enters Tryz.prog 224 = true := by kernel_rfl
@[go_sem] theorem en226 : enters Tryz.prog 226 = true := by kernel_rfl
@[go_sem] theorem en227 : enters Tryz.prog 227 = true := by kernel_rfl
@[go_sem] theorem en228 : enters Tryz.prog 228 = true := by kernel_rfl
@[go_sem] theorem en230 : enters Tryz.prog 230 = true := by kernel_rfl
@[go_sem] theorem en232 : enters Tryz.prog 232 = true := by kernel_rfl
@[go_sem] theorem en233 : enters Tryz.prog 233 = true := by kernel_rfl
@[go_sem] theorem en236 : enters Tryz.prog 236 = true := by kernel_rfl
@[go_sem] theorem en238 : enters Tryz.prog 238 = true := by kernel_rfl
@[go_sem] theorem en239 : enters Tryz.prog 239 = true := by kernel_rfl
@[go_sem] theorem en243 : enters Tryz.prog 243 = true := by kernel_rfl
abbrev ac_rostrumkeep_Picked := CC.of Tryz.f16 []
abbrev ac_crew_Run := CC.of Tryz.f17 [(14, [([0, 1, 2, 3, 4, 5, 6, 7, 8], [])]), (22, [([0, 1, 2, 3, 4, 5, 6, 7, 8, 9, 10, 11], [(3, 10), (4, 10), (8, 10)])]), (33, [([0, 1, 2, 3, 4, 5, 6, 7, 8, 9, 10, 11, 12], [(2, 9), (2, 11), (5, 9), (5, 11), (8, 11)]), ([0, 1, 2, 3, 4, 5, 6, 7, 8, 11, 9, 10, 12], [(2, 9), (2, 10), (5, 9), (5, 10), (8, 9)])]), (34, [([0, 1, 2, 3, 4, 5, 6, 7, 8, 9, 10, 11, 12, 13, 14, 15, 16, 17, 18, 19], [(1, 14), (1, 16), (3, 14), (5, 14), (7, 14), (10, 14), (11, 14)])])]
abbrev ac_rostrumtop_ran := CC.of Tryz.f18 [(2, [([0, 1, 2, 3, 4, 5, 6, 7, 8, 9, 10], [(5, 9), (6, 9)])])]
abbrev ac_rostrumtop_with := CC.of Tryz.f19 []
abbrev ac_ledger_Check := CC.of Tryz.f23 [(9, [([0, 1, 2, 3, 4, 5], [])])]
abbrev ac_client_New := CC.of Tryz.f26 []
abbrev ac_rostrumkeep_picked := CC.of Tryz.f33 []
abbrev ac_lines_Check := CC.of Tryz.f34 []
abbrev ac_crew_fresh := CC.of Tryz.f35 []
abbrev ac_tape_New := CC.of Tryz.f36 []
abbrev ac_crew_crew_do := CC.of Tryz.f37 [(1, [([0, 1, 2, 3, 4, 5, 6], [])]), (4, [([0, 1, 2, 3, 4, 5, 6, 7, 8], [])]), (11, [([0, 1, 2, 3, 4, 5, 6, 7, 8, 9, 10, 11], [])]), (23, [([0, 1, 2, 3, 4, 5, 6, 7, 8, 9, 10, 11, 12, 13, 14, 15, 16], [(4, 12)])])]
abbrev ac_slices_Clone_string := CC.of Tryz.f38 []
abbrev ac_slices_SortStableFunc_api_Lead := CC.of Tryz.f39 []
abbrev ac_slices_Clone_api_Item := CC.of Tryz.f41 []
abbrev ac_crew_copyOf := CC.of Tryz.f42 [(6, [([0, 1, 2, 3, 4, 5, 6, 7, 8, 9, 10, 11, 12, 13, 14], [(4, 2), (7, 2), (7, 5)])])]
abbrev ac_wire_CheckItem := CC.of Tryz.f43 []
abbrev ac_client_Check := CC.of Tryz.f45 [(6, [([0, 1, 2, 3, 4, 5, 6, 7, 8, 9, 10, 11, 12, 13, 14, 15, 16, 17, 18, 19, 20, 21, 22, 23, 24, 25], [])])]
abbrev ac_client_CheckCall := CC.of Tryz.f46 []
abbrev ac_lines_has := CC.of Tryz.f55 []
abbrev ac_crew_crew_act := CC.of Tryz.f59 []
abbrev ac_slices_stableCmpFunc_api_Lead := CC.of Tryz.f60 []
abbrev ac_slices_Clone_api_Pair := CC.of Tryz.f61 []
abbrev ac_slices_Clone_api_Score := CC.of Tryz.f62 []
abbrev ac_store_Check := CC.of Tryz.f64 [(6, [([0, 1, 2, 3, 4, 5, 6, 7, 8, 9, 10, 11, 12, 13, 14, 15, 16, 17, 18, 19, 20, 21, 22, 23, 24, 25, 26, 27, 28, 29, 30, 31], [])])]
abbrev ac_client_CheckReply := CC.of Tryz.f65 []
abbrev ac_client_number := CC.of Tryz.f66 []
abbrev ac_value_CheckCommand := CC.of Tryz.f67 [(18, [([0, 1, 2, 3, 4, 5, 6, 7], [(3, 5)])]), (23, [([0, 1, 2, 3, 4, 5, 6, 7], [(3, 5)])])]
abbrev ac_crew_node_heap := CC.of Tryz.f93 [(6, [([0, 1, 2, 3, 4, 5, 6, 7, 8, 9, 10, 11], [])]), (9, [([0, 1, 2, 3, 4, 5, 6, 7, 8, 9, 10, 11, 12, 13, 14], [])])]
abbrev ac_crew_crew_sync := CC.of Tryz.f94 [(5, [([0, 1, 2, 3, 4, 5, 6, 7, 8, 9, 10], [(4, 6)])])]
abbrev ac_crew_crew_crash := CC.of Tryz.f95 [(4, [([0, 1, 2, 3, 4, 5, 6, 7, 8], [])])]
abbrev ac_crew_node_trim := CC.of Tryz.f96 [(0, [([0, 1, 2, 3, 4, 5, 6, 7, 8, 9], [])]), (1, [([0, 1, 2, 3, 4, 5, 6, 7, 8, 9, 10, 11, 12, 13], [])]), (2, [([0, 1, 2, 3, 4, 5, 6, 7, 8, 9, 10, 11], [(3, 10), (8, 10)])]), (5, [([0, 1, 2, 3, 4, 5, 6, 7, 8, 9, 10, 11, 12, 13, 14, 15], [])])]
abbrev ac_slices_insertionSortCmpFunc_api_Lead := CC.of Tryz.f97 [(4, [([0, 1, 2, 3, 4, 5, 6, 7, 8, 9, 10, 11, 12, 13, 14, 15, 16], [])]), (6, [([0, 1, 2, 3, 4, 5, 6, 7, 8, 9, 10, 11, 12, 13, 14, 15, 16, 17], [])])]
abbrev ac_value_Check := CC.of Tryz.f100 [(30, [([0, 1, 2, 3, 4, 5, 6, 7, 8, 9, 10, 11], [])])]
abbrev ac_slices_ContainsFunc_string := CC.of Tryz.f101 []
abbrev ac_client_CheckReply_1 := CC.of Tryz.f102 []
abbrev ac_value_field := CC.of Tryz.f103 []
abbrev ac_value_text := CC.of Tryz.f104 []
abbrev ac_value_count := CC.of Tryz.f105 []
abbrev ac_crew_node_write := CC.of Tryz.f116 [(1, [([0, 1, 2, 3, 4, 5, 6, 7, 8, 9, 10, 11], [(3, 9), (4, 9)]), ([0, 1, 2, 3, 4, 9, 5, 6, 7, 8, 10, 11], [(3, 5), (4, 5)])])]
abbrev ac_ledger_Last := CC.of Tryz.f117 []
abbrev ac_crew_node_send := CC.of Tryz.f119 [(3, [([0, 1, 2, 3, 4, 5, 6, 7, 8, 9, 10], [(4, 6)])])]
abbrev ac_ledger_Term := CC.of Tryz.f123 []
abbrev ac_ledger_Behind := CC.of Tryz.f124 []
abbrev ac_tape_Sync := CC.of Tryz.f125 []
abbrev ac_tape_Crash := CC.of Tryz.f126 []
abbrev ac_tape_Recover := CC.of Tryz.f127 [(13, [([0, 1, 2, 3, 4, 5, 6, 7, 8, 9, 10, 11, 12, 13], [])])]
abbrev ac_tape_Fold := CC.of Tryz.f128 [(10, [([0, 1, 2, 3, 4, 5, 6, 7], [(3, 5)])]), (18, [([0, 1, 2, 3, 4, 5, 6, 7, 8, 9, 10], [(1, 6)])])]
abbrev ac_ledger_Trim := CC.of Tryz.f129 []
abbrev ac_value_elements := CC.of Tryz.f131 []
abbrev ac_value_Check_1 := CC.of Tryz.f132 []
abbrev ac_slices_ContainsFunc_api_Pair := CC.of Tryz.f133 []
abbrev ac_value_Check_2 := CC.of Tryz.f134 []
abbrev ac_slices_ContainsFunc_api_Score := CC.of Tryz.f135 []
abbrev ac_value_Check_3 := CC.of Tryz.f136 []
abbrev ac_value_Check_4 := CC.of Tryz.f137 []
abbrev ac_value_rising_api_Pair := CC.of Tryz.f138 [(4, [([0, 1, 2, 3, 4, 5, 6, 7, 8, 9, 10, 11], [])])]
abbrev ac_value_byField := CC.of Tryz.f139 []
abbrev ac_value_rising_api_Score := CC.of Tryz.f140 [(4, [([0, 1, 2, 3, 4, 5, 6, 7, 8, 9, 10, 11], [])])]
abbrev ac_value_byScore := CC.of Tryz.f141 [(1, [([0, 1, 2, 3, 4, 5, 6, 7, 8, 9, 10, 11, 12], [(6, 4), (8, 4)])])]
abbrev ac_value_rising_string := CC.of Tryz.f142 [(4, [([0, 1, 2, 3, 4, 5, 6, 7, 8, 9, 10, 11], [])])]
abbrev ac_strings_Compare := CC.of Tryz.f143 []
abbrev ac_value_rank := CC.of Tryz.f144 []
abbrev ac_slices_IndexFunc_string := CC.of Tryz.f145 []
abbrev ac_ledger_term := CC.of Tryz.f155 []
abbrev ac_tape_Append := CC.of Tryz.f156 [(10, [([0, 1, 2, 3, 4, 5, 6, 7, 8, 9], [(1, 4)])])]
abbrev ac_ledger_last := CC.of Tryz.f157 [(3, [([0, 1, 2, 3, 4, 5, 6, 7, 8, 9, 10, 11, 12], [])]), (4, [([0, 1, 2, 3, 4, 5], [])])]
abbrev ac_tape_CheckSnap := CC.of Tryz.f158 []
abbrev ac_tape_rest := CC.of Tryz.f159 []
abbrev ac_tape_open := CC.of Tryz.f160 [(3, [([0, 1, 2, 3, 4, 5, 6, 7], [(4, 2)])])]
abbrev ac_tape_value := CC.of Tryz.f161 [(1, [([0, 1, 2, 3, 4, 5, 6, 7, 8, 9, 10, 11, 12, 13, 14, 15, 16], [])])]
abbrev ac_tape_decode := CC.of Tryz.f162 [(5, [([0, 1, 2, 3, 4, 5, 6, 7, 8, 9], [(4, 2), (5, 2), (6, 2)])]), (10, [([0, 1, 2, 3, 4, 5, 6, 7, 8], [])]), (12, [([0, 1, 2, 3, 4, 5, 6, 7, 8, 9], [(0, 5)])])]
abbrev ac_tape_Check := CC.of Tryz.f163 []
abbrev ac_tape_line := CC.of Tryz.f164 [(6, [([0, 1, 2, 3, 4, 5, 6, 7, 8, 9, 10, 11, 12, 13, 14, 15, 16, 17, 18], [(1, 12), (1, 14), (1, 15), (1, 17), (3, 12), (3, 14), (3, 15), (3, 17), (5, 14), (5, 17), (8, 14), (8, 17), (13, 12), (13, 17)]), ([0, 1, 2, 3, 4, 5, 6, 7, 8, 9, 10, 11, 12, 13, 14, 17, 15, 16, 18], [(1, 12), (1, 14), (1, 15), (1, 16), (3, 12), (3, 14), (3, 15), (3, 16), (5, 14), (5, 15), (8, 14), (8, 15), (13, 12), (13, 15)]), ([0, 1, 2, 3, 4, 5, 6, 7, 8, 9, 10, 11, 12, 13, 17, 14, 15, 16, 18], [(1, 12), (1, 14), (1, 15), (1, 16), (3, 12), (3, 14), (3, 15), (3, 16), (5, 14), (5, 15), (8, 14), (8, 15), (13, 12), (13, 14)]), ([0, 1, 2, 3, 4, 5, 6, 7, 8, 9, 10, 11, 13, 14, 12, 15, 16, 17, 18], [(1, 13), (1, 14), (1, 15), (1, 17), (3, 13), (3, 14), (3, 15), (3, 17), (5, 13), (5, 17), (8, 13), (8, 17), (12, 14), (12, 17)]), ([0, 1, 2, 3, 4, 5, 6, 7, 8, 9, 10, 11, 13, 14, 12, 17, 15, 16, 18], [(1, 13), (1, 14), (1, 15), (1, 16), (3, 13), (3, 14), (3, 15), (3, 16), (5, 13), (5, 15), (8, 13), (8, 15), (12, 14), (12, 15)]), ([0, 1, 2, 3, 4, 5, 6, 7, 8, 9, 10, 11, 13, 14, 17, 12, 15, 16, 18], [(1, 13), (1, 14), (1, 15), (1, 16), (3, 13), (3, 14), (3, 15), (3, 16), (5, 13), (5, 14), (8, 13), (8, 14), (12, 14), (12, 15)]), ([0, 1, 2, 3, 4, 5, 6, 7, 8, 9, 10, 11, 13, 17, 12, 14, 15, 16, 18], [(1, 13), (1, 14), (1, 15), (1, 16), (3, 13), (3, 14), (3, 15), (3, 16), (5, 13), (5, 15), (8, 13), (8, 15), (12, 13), (12, 14)]), ([0, 1, 2, 3, 4, 5, 6, 7, 8, 9, 10, 11, 13, 17, 14, 12, 15, 16, 18], [(1, 13), (1, 14), (1, 15), (1, 16), (3, 13), (3, 14), (3, 15), (3, 16), (5, 13), (5, 14), (8, 13), (8, 14), (12, 13), (12, 15)])])]
abbrev ac_wire_Encode := CC.of Tryz.f165 []
abbrev ac_wire_Decode := CC.of Tryz.f166 []
abbrev ac_slices_IndexFunc_api_Pair := CC.of Tryz.f168 []
abbrev ac_slices_IndexFunc_api_Score := CC.of Tryz.f169 []
abbrev ac_cmp_Or_int := CC.of Tryz.f170 []
abbrev ac_cmp_Compare_int := CC.of Tryz.f171 []
abbrev ac_value_rank_1 := CC.of Tryz.f173 []
abbrev ac_tape_encode := CC.of Tryz.f182 [(3, [([0, 1, 2, 3, 4, 5, 6, 7, 8, 9, 10, 11], [(2, 0), (2, 9), (6, 0), (6, 3), (6, 4), (8, 0), (8, 3), (8, 4)]), ([0, 1, 2, 3, 5, 6, 7, 8, 9, 4, 10, 11], [(2, 0), (2, 8), (5, 0), (5, 3), (5, 9), (7, 0), (7, 3), (7, 9)]), ([0, 1, 2, 5, 6, 7, 8, 9, 3, 4, 10, 11], [(2, 0), (2, 7), (4, 0), (4, 8), (4, 9), (6, 0), (6, 8), (6, 9)]), ([1, 2, 3, 0, 4, 5, 6, 7, 8, 9, 10, 11], [(1, 3), (1, 9), (6, 2), (6, 3), (6, 4), (8, 2), (8, 3), (8, 4)]), ([1, 2, 3, 0, 5, 6, 7, 8, 9, 4, 10, 11], [(1, 3), (1, 8), (5, 2), (5, 3), (5, 9), (7, 2), (7, 3), (7, 9)]), ([1, 2, 3, 5, 6, 7, 8, 9, 0, 4, 10, 11], [(1, 7), (1, 8), (4, 2), (4, 8), (4, 9), (6, 2), (6, 8), (6, 9)]), ([1, 2, 5, 6, 7, 8, 9, 0, 3, 4, 10, 11], [(1, 6), (1, 7), (3, 7), (3, 8), (3, 9), (5, 7), (5, 8), (5, 9)]), ([1, 2, 5, 6, 7, 8, 9, 3, 0, 4, 10, 11], [(1, 6), (1, 8), (3, 7), (3, 8), (3, 9), (5, 7), (5, 8), (5, 9)])]), (8, [([0, 1, 2, 3, 4, 5, 6, 7, 8, 9, 10, 11, 12], [(3, 0), (7, 0), (7, 4)]), ([1, 2, 3, 4, 0, 5, 6, 7, 8, 9, 10, 11, 12], [(2, 4), (7, 3), (7, 4)]), ([1, 2, 3, 4, 5, 6, 7, 8, 0, 9, 10, 11, 12], [(2, 8), (6, 3), (6, 8)])])]
abbrev ac_slices_Concat_byte := CC.of Tryz.f183 []
abbrev ac_tape_three := CC.of Tryz.f184 []
abbrev ac_tape_number := CC.of Tryz.f185 []
abbrev ac_slices_Clone_byte := CC.of Tryz.f186 []
abbrev ac_wire_DecodeItem := CC.of Tryz.f187 []
abbrev ac_tape_noSnap := CC.of Tryz.f188 []
abbrev ac_wire_writer_number := CC.of Tryz.f189 [(4, [([0, 1, 2, 3, 4, 5, 6, 7, 8, 9, 10, 11, 12, 13], [(4, 9)])])]
abbrev ac_wire_writer_small := CC.of Tryz.f190 []
abbrev ac_wire_writer_text := CC.of Tryz.f191 []
abbrev ac_wire_writer_value := CC.of Tryz.f192 []
abbrev ac_wire_writer_texts := CC.of Tryz.f193 []
abbrev ac_wire_reader_number := CC.of Tryz.f194 []
abbrev ac_wire_reader_each := CC.of Tryz.f195 []
abbrev ac_wire_Decode_1 := CC.of Tryz.f196 [(0, [([0, 1, 2, 3, 4, 5, 6, 7, 8, 9, 10, 11, 12, 13, 14], [(2, 4), (2, 6), (2, 8), (2, 10), (5, 4), (7, 4), (7, 6)])])]
abbrev ac_wire_reader_text := CC.of Tryz.f197 []
abbrev ac_wire_reader_value := CC.of Tryz.f198 [(1, [([0, 1, 2, 3, 4, 5, 6, 7, 8], [(0, 7), (2, 1), (2, 7), (4, 1), (4, 3), (4, 7)]), ([0, 1, 2, 3, 4, 7, 5, 6, 8], [(0, 5), (2, 1), (2, 5), (4, 1), (4, 3), (4, 5)]), ([0, 1, 2, 4, 7, 3, 5, 6, 8], [(0, 4), (2, 1), (2, 4), (3, 1), (3, 4), (3, 5)]), ([0, 2, 4, 7, 1, 3, 5, 6, 8], [(0, 3), (1, 3), (1, 4), (2, 3), (2, 4), (2, 5)])])]
abbrev ac_wire_Decode_2 := CC.of Tryz.f199 [(0, [([0, 1, 2, 3, 4, 5, 6, 7, 8], [(0, 7), (2, 1), (2, 7), (4, 1), (4, 3), (4, 7)]), ([0, 1, 2, 3, 4, 7, 5, 6, 8], [(0, 5), (2, 1), (2, 5), (4, 1), (4, 3), (4, 5)]), ([0, 1, 2, 4, 7, 3, 5, 6, 8], [(0, 4), (2, 1), (2, 4), (3, 1), (3, 4), (3, 5)]), ([0, 2, 4, 7, 1, 3, 5, 6, 8], [(0, 3), (1, 3), (1, 4), (2, 3), (2, 4), (2, 5)])]), (1, [([0, 1, 2, 3, 4, 5, 6, 7, 8], [(2, 1), (4, 1), (4, 3)])])]
abbrev ac_wire_reader_small := CC.of Tryz.f200 []
abbrev ac_wire_reader_texts := CC.of Tryz.f201 []
abbrev ac_wire_reader_end := CC.of Tryz.f202 []
abbrev ac_cmp_isNaN_int := CC.of Tryz.f203 []
abbrev ac_wire_EncodeItem := CC.of Tryz.f216 []
abbrev ac_slices_Grow_byte := CC.of Tryz.f217 []
abbrev ac_wire_reader_item := CC.of Tryz.f218 []
abbrev ac_wire_reader_take := CC.of Tryz.f219 []
abbrev ac_wire_reader_value_1 := CC.of Tryz.f220 [(0, [([0, 1, 2, 3, 4, 5, 6, 7, 8, 9, 10], [(1, 3), (1, 5), (1, 7), (4, 3)])])]
abbrev ac_wire_reader_value_2 := CC.of Tryz.f221 [(0, [([0, 1, 2, 3, 4, 5, 6, 7, 8, 9, 10], [(1, 3), (1, 5), (1, 7), (4, 3)])])]
abbrev ac_wire_reader_texts_1 := CC.of Tryz.f222 [(0, [([0, 1, 2, 3, 4, 5], [(0, 2), (0, 3)])])]
abbrev ac_wire_writer_item := CC.of Tryz.f232 []
abbrev ac_wire_reader_call := CC.of Tryz.f233 []
abbrev ac_wire_writer_call := CC.of Tryz.f238 []
abbrev ac_wire_reader_command := CC.of Tryz.f239 []
abbrev ac_wire_writer_command := CC.of Tryz.f243 []
end Go.Proofs.YtkkleopmambcnaaGreatDoor
set_option linter.unusedVariables false
set_option linter.unusedSimpArgs false
set_option maxRecDepth 100000
set_option maxHeartbeats 8000000
namespace Go.Proofs.YtkkleopmambcnaaGreatDoor
open Go Go.RowKit Go.Proofs.AE
theorem mixed : Tryz.prog.follows .mixedOrders = true := by kernel_rfl
variable {G : Nat → AV}
abbrev iV (n : Int) : AV := .one (.v (.lit (.int .i64 n)))
abbrev sV (s : ByteArray) : AV := .one (.v (.lit (.string s)))
abbrev bV (b : Bool) : AV := .one (.v (.lit (.bool b)))
abbrev iC (n : Int) : C := .v (.lit (.int .i64 n))
abbrev sC (s : ByteArray) : C := .v (.lit (.string s))
def okField (s : ByteArray) : Bool := decide (1 ≤ (s.size : Int)) && decide ((s.size : Int) ≤ 12)
def okText (s : ByteArray) : Bool := decide ((s.size : Int) ≤ 20)
def okCount (n : Int) : Bool := decide (-1099511627776 ≤ n) && decide (n ≤ 1099511627776)
def okNumber (n : Int) : Bool := decide (1 ≤ n) && decide (n ≤ 1048576)
theorem number_c (n : Int) : PCall Tryz.prog G 66 [iV n] (bV (okNumber n)) := by
  refine pcallc mixed Tryz.func66 ac_client_number ?_
  unfold okNumber
  simp -dsimp [go_sem]
  refine Cnd.intro (fun h => ?_) (fun h => ?_) <;> simp -dsimp [go_sem, h]
theorem field_c (s : ByteArray) : PCall Tryz.prog G 103 [sV s] (bV (okField s)) := by
  refine pcallc mixed Tryz.func103 ac_value_field ?_
  unfold okField
  simp -dsimp [go_sem]
  refine Cnd.intro (fun h => ?_) (fun h => ?_) <;> simp -dsimp [go_sem, h]
theorem text_c (s : ByteArray) : PCall Tryz.prog G 104 [sV s] (bV (okText s)) := by
  refine pcallc mixed Tryz.func104 ac_value_text ?_
  unfold okText
  simp -dsimp [go_sem]
theorem count_c (n : Int) : PCall Tryz.prog G 105 [iV n] (bV (okCount n)) := by
  refine pcallc mixed Tryz.func105 ac_value_count ?_
  unfold okCount
  simp -dsimp [go_sem]
  refine Cnd.intro (fun h => ?_) (fun h => ?_) <;> simp -dsimp [go_sem, h]
def pk (n m : Int) : Int := (if n < 0 then -(n + 1) else n).tmod m
theorem pk_range {n m : Int} (hm : 0 < m) : 0 ≤ pk n m ∧ pk n m < m := by
  unfold pk
  have h0 : 0 ≤ (if n < 0 then -(n + 1) else n) := by split <;> omega
  rw [Int.tmod_eq_emod_of_nonneg h0]
  exact ⟨Int.emod_nonneg _ (by omega), Int.emod_lt_of_pos _ hm⟩
def i64 (n : Int) : Prop := -9223372036854775808 ≤ n ∧ n ≤ 9223372036854775807
theorem picked_c (n m : Int) (hn : i64 n) (hm : m ≠ 0) : PCall Tryz.prog G 33 [iV n, iV m] (iV (pk n m)) := by
  refine pcallc mixed Tryz.func33 ac_rostrumkeep_picked ?_
  unfold pk
  unfold i64 at hn
  simp -dsimp [go_sem]
  refine Cnd.intro (fun h => ?_) (fun h => ?_)
  · simp at h
    simp -dsimp [go_sem, h, hm]
    rw [IntWalk.i64_in (n + 1) (by omega), IntWalk.i64_in _ (by omega), Int.neg_tmod]
  · simp at h
    have h' : ¬ n < 0 := by omega
    simp -dsimp [go_sem, h', hm]
def formOk (k : Int) (key field text : ByteArray) (n : Int) : Bool :=
  (k != 22 || decide (key = ⟨#[]⟩)) && ((k == 4 || k == 5 || k == 6) || decide (field = ⟨#[]⟩)) && ((k == 1 || k == 4 || k == 7 || k == 8 || k == 11 || k == 12 || k == 13 || k == 14 || k == 15 || k == 16) || decide (text = ⟨#[]⟩)) && ((k == 3 || k == 14 || k == 20) || n == 0)
def checkCommand (k : Int) (key field text : ByteArray) (n : Int) : Int :=
  if k < 1 then 3 else if 22 < k then 3 else if formOk k key field text n = false then 8
  else if (k != 22 && !okField key || ((k == 4 || k == 5 || k == 6) && !okField field)) || !okText text then 1
  else if okCount n = false then 2 else 0
theorem check1_c (key field text : ByteArray) (n : Int) : PCall Tryz.prog G 67 [.agg [iC 1, sC key, sC field, sC text, iC n]] (iV (checkCommand 1 key field text n)) := by
  refine pcallc mixed Tryz.func67 ac_value_CheckCommand ?_
  repeat' (first | (with_reducible first | refine Cn (fun h => ?_) fun h => ?_ | refine And.intro ?_ ?_ | refine wR ?_ | exact wr _ _ | refine wa ?_ | apply awp_join | refine q (field_c _) ?_ | refine qd (field_c _) ?_ | refine qz (field_c _) ?_ | refine q (text_c _) ?_ | refine qd (text_c _) ?_ | refine qz (text_c _) ?_ | refine q (count_c _) ?_ | refine qd (count_c _) ?_ | refine qz (count_c _) ?_) | (with_reducible refine CallZ.z ?_) | simp -dsimp [go_sem])
  all_goals (try simp_all [checkCommand, formOk])
  all_goals (intros; first | (simp_all; done) | trace_state)
theorem check2_c (key field text : ByteArray) (n : Int) : PCall Tryz.prog G 67 [.agg [iC 2, sC key, sC field, sC text, iC n]] (iV (checkCommand 2 key field text n)) := by
  refine pcallc mixed Tryz.func67 ac_value_CheckCommand ?_
  repeat' (first | (with_reducible first | refine Cn (fun h => ?_) fun h => ?_ | refine And.intro ?_ ?_ | refine wR ?_ | exact wr _ _ | refine wa ?_ | apply awp_join | refine q (field_c _) ?_ | refine qd (field_c _) ?_ | refine qz (field_c _) ?_ | refine q (text_c _) ?_ | refine qd (text_c _) ?_ | refine qz (text_c _) ?_ | refine q (count_c _) ?_ | refine qd (count_c _) ?_ | refine qz (count_c _) ?_) | (with_reducible refine CallZ.z ?_) | simp -dsimp [go_sem])
  all_goals (try simp_all [checkCommand, formOk])
  all_goals (intros; first | (simp_all; done) | trace_state)
theorem check3_c (key field text : ByteArray) (n : Int) : PCall Tryz.prog G 67 [.agg [iC 3, sC key, sC field, sC text, iC n]] (iV (checkCommand 3 key field text n)) := by
  refine pcallc mixed Tryz.func67 ac_value_CheckCommand ?_
  repeat' (first | (with_reducible first | refine Cn (fun h => ?_) fun h => ?_ | refine And.intro ?_ ?_ | refine wR ?_ | exact wr _ _ | refine wa ?_ | apply awp_join | refine q (field_c _) ?_ | refine qd (field_c _) ?_ | refine qz (field_c _) ?_ | refine q (text_c _) ?_ | refine qd (text_c _) ?_ | refine qz (text_c _) ?_ | refine q (count_c _) ?_ | refine qd (count_c _) ?_ | refine qz (count_c _) ?_) | (with_reducible refine CallZ.z ?_) | simp -dsimp [go_sem])
  all_goals (try simp_all [checkCommand, formOk])
  all_goals (intros; first | (simp_all; done) | trace_state)
theorem check4_c (key field text : ByteArray) (n : Int) : PCall Tryz.prog G 67 [.agg [iC 4, sC key, sC field, sC text, iC n]] (iV (checkCommand 4 key field text n)) := by
  refine pcallc mixed Tryz.func67 ac_value_CheckCommand ?_
  repeat' (first | (with_reducible first | refine Cn (fun h => ?_) fun h => ?_ | refine And.intro ?_ ?_ | refine wR ?_ | exact wr _ _ | refine wa ?_ | apply awp_join | refine q (field_c _) ?_ | refine qd (field_c _) ?_ | refine qz (field_c _) ?_ | refine q (text_c _) ?_ | refine qd (text_c _) ?_ | refine qz (text_c _) ?_ | refine q (count_c _) ?_ | refine qd (count_c _) ?_ | refine qz (count_c _) ?_) | (with_reducible refine CallZ.z ?_) | simp -dsimp [go_sem])
  all_goals (try simp_all [checkCommand, formOk])
  all_goals (intros; first | (simp_all; done) | trace_state)
theorem check5_c (key field text : ByteArray) (n : Int) : PCall Tryz.prog G 67 [.agg [iC 5, sC key, sC field, sC text, iC n]] (iV (checkCommand 5 key field text n)) := by
  refine pcallc mixed Tryz.func67 ac_value_CheckCommand ?_
  repeat' (first | (with_reducible first | refine Cn (fun h => ?_) fun h => ?_ | refine And.intro ?_ ?_ | refine wR ?_ | exact wr _ _ | refine wa ?_ | apply awp_join | refine q (field_c _) ?_ | refine qd (field_c _) ?_ | refine qz (field_c _) ?_ | refine q (text_c _) ?_ | refine qd (text_c _) ?_ | refine qz (text_c _) ?_ | refine q (count_c _) ?_ | refine qd (count_c _) ?_ | refine qz (count_c _) ?_) | (with_reducible refine CallZ.z ?_) | simp -dsimp [go_sem])
  all_goals (try simp_all [checkCommand, formOk])
  all_goals (intros; first | (simp_all; done) | trace_state)
theorem check6_c (key field text : ByteArray) (n : Int) : PCall Tryz.prog G 67 [.agg [iC 6, sC key, sC field, sC text, iC n]] (iV (checkCommand 6 key field text n)) := by
  refine pcallc mixed Tryz.func67 ac_value_CheckCommand ?_
  repeat' (first | (with_reducible first | refine Cn (fun h => ?_) fun h => ?_ | refine And.intro ?_ ?_ | refine wR ?_ | exact wr _ _ | refine wa ?_ | apply awp_join | refine q (field_c _) ?_ | refine qd (field_c _) ?_ | refine qz (field_c _) ?_ | refine q (text_c _) ?_ | refine qd (text_c _) ?_ | refine qz (text_c _) ?_ | refine q (count_c _) ?_ | refine qd (count_c _) ?_ | refine qz (count_c _) ?_) | (with_reducible refine CallZ.z ?_) | simp -dsimp [go_sem])
  all_goals (try simp_all [checkCommand, formOk])
  all_goals (intros; first | (simp_all; done) | trace_state)
theorem check7_c (key field text : ByteArray) (n : Int) : PCall Tryz.prog G 67 [.agg [iC 7, sC key, sC field, sC text, iC n]] (iV (checkCommand 7 key field text n)) := by
  refine pcallc mixed Tryz.func67 ac_value_CheckCommand ?_
  repeat' (first | (with_reducible first | refine Cn (fun h => ?_) fun h => ?_ | refine And.intro ?_ ?_ | refine wR ?_ | exact wr _ _ | refine wa ?_ | apply awp_join | refine q (field_c _) ?_ | refine qd (field_c _) ?_ | refine qz (field_c _) ?_ | refine q (text_c _) ?_ | refine qd (text_c _) ?_ | refine qz (text_c _) ?_ | refine q (count_c _) ?_ | refine qd (count_c _) ?_ | refine qz (count_c _) ?_) | (with_reducible refine CallZ.z ?_) | simp -dsimp [go_sem])
  all_goals (try simp_all [checkCommand, formOk])
  all_goals (intros; first | (simp_all; done) | trace_state)
theorem check8_c (key field text : ByteArray) (n : Int) : PCall Tryz.prog G 67 [.agg [iC 8, sC key, sC field, sC text, iC n]] (iV (checkCommand 8 key field text n)) := by
  refine pcallc mixed Tryz.func67 ac_value_CheckCommand ?_
  repeat' (first | (with_reducible first | refine Cn (fun h => ?_) fun h => ?_ | refine And.intro ?_ ?_ | refine wR ?_ | exact wr _ _ | refine wa ?_ | apply awp_join | refine q (field_c _) ?_ | refine qd (field_c _) ?_ | refine qz (field_c _) ?_ | refine q (text_c _) ?_ | refine qd (text_c _) ?_ | refine qz (text_c _) ?_ | refine q (count_c _) ?_ | refine qd (count_c _) ?_ | refine qz (count_c _) ?_) | (with_reducible refine CallZ.z ?_) | simp -dsimp [go_sem])
  all_goals (try simp_all [checkCommand, formOk])
  all_goals (intros; first | (simp_all; done) | trace_state)
theorem check9_c (key field text : ByteArray) (n : Int) : PCall Tryz.prog G 67 [.agg [iC 9, sC key, sC field, sC text, iC n]] (iV (checkCommand 9 key field text n)) := by
  refine pcallc mixed Tryz.func67 ac_value_CheckCommand ?_
  repeat' (first | (with_reducible first | refine Cn (fun h => ?_) fun h => ?_ | refine And.intro ?_ ?_ | refine wR ?_ | exact wr _ _ | refine wa ?_ | apply awp_join | refine q (field_c _) ?_ | refine qd (field_c _) ?_ | refine qz (field_c _) ?_ | refine q (text_c _) ?_ | refine qd (text_c _) ?_ | refine qz (text_c _) ?_ | refine q (count_c _) ?_ | refine qd (count_c _) ?_ | refine qz (count_c _) ?_) | (with_reducible refine CallZ.z ?_) | simp -dsimp [go_sem])
  all_goals (try simp_all [checkCommand, formOk])
  all_goals (intros; first | (simp_all; done) | trace_state)
theorem check10_c (key field text : ByteArray) (n : Int) : PCall Tryz.prog G 67 [.agg [iC 10, sC key, sC field, sC text, iC n]] (iV (checkCommand 10 key field text n)) := by
  refine pcallc mixed Tryz.func67 ac_value_CheckCommand ?_
  repeat' (first | (with_reducible first | refine Cn (fun h => ?_) fun h => ?_ | refine And.intro ?_ ?_ | refine wR ?_ | exact wr _ _ | refine wa ?_ | apply awp_join | refine q (field_c _) ?_ | refine qd (field_c _) ?_ | refine qz (field_c _) ?_ | refine q (text_c _) ?_ | refine qd (text_c _) ?_ | refine qz (text_c _) ?_ | refine q (count_c _) ?_ | refine qd (count_c _) ?_ | refine qz (count_c _) ?_) | (with_reducible refine CallZ.z ?_) | simp -dsimp [go_sem])
  all_goals (try simp_all [checkCommand, formOk])
  all_goals (intros; first | (simp_all; done) | trace_state)
theorem check11_c (key field text : ByteArray) (n : Int) : PCall Tryz.prog G 67 [.agg [iC 11, sC key, sC field, sC text, iC n]] (iV (checkCommand 11 key field text n)) := by
  refine pcallc mixed Tryz.func67 ac_value_CheckCommand ?_
  repeat' (first | (with_reducible first | refine Cn (fun h => ?_) fun h => ?_ | refine And.intro ?_ ?_ | refine wR ?_ | exact wr _ _ | refine wa ?_ | apply awp_join | refine q (field_c _) ?_ | refine qd (field_c _) ?_ | refine qz (field_c _) ?_ | refine q (text_c _) ?_ | refine qd (text_c _) ?_ | refine qz (text_c _) ?_ | refine q (count_c _) ?_ | refine qd (count_c _) ?_ | refine qz (count_c _) ?_) | (with_reducible refine CallZ.z ?_) | simp -dsimp [go_sem])
  all_goals (try simp_all [checkCommand, formOk])
  all_goals (intros; first | (simp_all; done) | trace_state)
theorem check12_c (key field text : ByteArray) (n : Int) : PCall Tryz.prog G 67 [.agg [iC 12, sC key, sC field, sC text, iC n]] (iV (checkCommand 12 key field text n)) := by
  refine pcallc mixed Tryz.func67 ac_value_CheckCommand ?_
  repeat' (first | (with_reducible first | refine Cn (fun h => ?_) fun h => ?_ | refine And.intro ?_ ?_ | refine wR ?_ | exact wr _ _ | refine wa ?_ | apply awp_join | refine q (field_c _) ?_ | refine qd (field_c _) ?_ | refine qz (field_c _) ?_ | refine q (text_c _) ?_ | refine qd (text_c _) ?_ | refine qz (text_c _) ?_ | refine q (count_c _) ?_ | refine qd (count_c _) ?_ | refine qz (count_c _) ?_) | (with_reducible refine CallZ.z ?_) | simp -dsimp [go_sem])
  all_goals (try simp_all [checkCommand, formOk])
  all_goals (intros; first | (simp_all; done) | trace_state)
theorem check13_c (key field text : ByteArray) (n : Int) : PCall Tryz.prog G 67 [.agg [iC 13, sC key, sC field, sC text, iC n]] (iV (checkCommand 13 key field text n)) := by
  refine pcallc mixed Tryz.func67 ac_value_CheckCommand ?_
  repeat' (first | (with_reducible first | refine Cn (fun h => ?_) fun h => ?_ | refine And.intro ?_ ?_ | refine wR ?_ | exact wr _ _ | refine wa ?_ | apply awp_join | refine q (field_c _) ?_ | refine qd (field_c _) ?_ | refine qz (field_c _) ?_ | refine q (text_c _) ?_ | refine qd (text_c _) ?_ | refine qz (text_c _) ?_ | refine q (count_c _) ?_ | refine qd (count_c _) ?_ | refine qz (count_c _) ?_) | (with_reducible refine CallZ.z ?_) | simp -dsimp [go_sem])
  all_goals (try simp_all [checkCommand, formOk])
  all_goals (intros; first | (simp_all; done) | trace_state)
theorem check14_c (key field text : ByteArray) (n : Int) : PCall Tryz.prog G 67 [.agg [iC 14, sC key, sC field, sC text, iC n]] (iV (checkCommand 14 key field text n)) := by
  refine pcallc mixed Tryz.func67 ac_value_CheckCommand ?_
  repeat' (first | (with_reducible first | refine Cn (fun h => ?_) fun h => ?_ | refine And.intro ?_ ?_ | refine wR ?_ | exact wr _ _ | refine wa ?_ | apply awp_join | refine q (field_c _) ?_ | refine qd (field_c _) ?_ | refine qz (field_c _) ?_ | refine q (text_c _) ?_ | refine qd (text_c _) ?_ | refine qz (text_c _) ?_ | refine q (count_c _) ?_ | refine qd (count_c _) ?_ | refine qz (count_c _) ?_) | (with_reducible refine CallZ.z ?_) | simp -dsimp [go_sem])
  all_goals (try simp_all [checkCommand, formOk])
  all_goals (intros; first | (simp_all; done) | trace_state)
theorem check15_c (key field text : ByteArray) (n : Int) : PCall Tryz.prog G 67 [.agg [iC 15, sC key, sC field, sC text, iC n]] (iV (checkCommand 15 key field text n)) := by
  refine pcallc mixed Tryz.func67 ac_value_CheckCommand ?_
  repeat' (first | (with_reducible first | refine Cn (fun h => ?_) fun h => ?_ | refine And.intro ?_ ?_ | refine wR ?_ | exact wr _ _ | refine wa ?_ | apply awp_join | refine q (field_c _) ?_ | refine qd (field_c _) ?_ | refine qz (field_c _) ?_ | refine q (text_c _) ?_ | refine qd (text_c _) ?_ | refine qz (text_c _) ?_ | refine q (count_c _) ?_ | refine qd (count_c _) ?_ | refine qz (count_c _) ?_) | (with_reducible refine CallZ.z ?_) | simp -dsimp [go_sem])
  all_goals (try simp_all [checkCommand, formOk])
  all_goals (intros; first | (simp_all; done) | trace_state)
theorem check16_c (key field text : ByteArray) (n : Int) : PCall Tryz.prog G 67 [.agg [iC 16, sC key, sC field, sC text, iC n]] (iV (checkCommand 16 key field text n)) := by
  refine pcallc mixed Tryz.func67 ac_value_CheckCommand ?_
  repeat' (first | (with_reducible first | refine Cn (fun h => ?_) fun h => ?_ | refine And.intro ?_ ?_ | refine wR ?_ | exact wr _ _ | refine wa ?_ | apply awp_join | refine q (field_c _) ?_ | refine qd (field_c _) ?_ | refine qz (field_c _) ?_ | refine q (text_c _) ?_ | refine qd (text_c _) ?_ | refine qz (text_c _) ?_ | refine q (count_c _) ?_ | refine qd (count_c _) ?_ | refine qz (count_c _) ?_) | (with_reducible refine CallZ.z ?_) | simp -dsimp [go_sem])
  all_goals (try simp_all [checkCommand, formOk])
  all_goals (intros; first | (simp_all; done) | trace_state)
theorem check17_c (key field text : ByteArray) (n : Int) : PCall Tryz.prog G 67 [.agg [iC 17, sC key, sC field, sC text, iC n]] (iV (checkCommand 17 key field text n)) := by
  refine pcallc mixed Tryz.func67 ac_value_CheckCommand ?_
  repeat' (first | (with_reducible first | refine Cn (fun h => ?_) fun h => ?_ | refine And.intro ?_ ?_ | refine wR ?_ | exact wr _ _ | refine wa ?_ | apply awp_join | refine q (field_c _) ?_ | refine qd (field_c _) ?_ | refine qz (field_c _) ?_ | refine q (text_c _) ?_ | refine qd (text_c _) ?_ | refine qz (text_c _) ?_ | refine q (count_c _) ?_ | refine qd (count_c _) ?_ | refine qz (count_c _) ?_) | (with_reducible refine CallZ.z ?_) | simp -dsimp [go_sem])
  all_goals (try simp_all [checkCommand, formOk])
  all_goals (intros; first | (simp_all; done) | trace_state)
theorem check18_c (key field text : ByteArray) (n : Int) : PCall Tryz.prog G 67 [.agg [iC 18, sC key, sC field, sC text, iC n]] (iV (checkCommand 18 key field text n)) := by
  refine pcallc mixed Tryz.func67 ac_value_CheckCommand ?_
  repeat' (first | (with_reducible first | refine Cn (fun h => ?_) fun h => ?_ | refine And.intro ?_ ?_ | refine wR ?_ | exact wr _ _ | refine wa ?_ | apply awp_join | refine q (field_c _) ?_ | refine qd (field_c _) ?_ | refine qz (field_c _) ?_ | refine q (text_c _) ?_ | refine qd (text_c _) ?_ | refine qz (text_c _) ?_ | refine q (count_c _) ?_ | refine qd (count_c _) ?_ | refine qz (count_c _) ?_) | (with_reducible refine CallZ.z ?_) | simp -dsimp [go_sem])
  all_goals (try simp_all [checkCommand, formOk])
  all_goals (intros; first | (simp_all; done) | trace_state)
theorem check19_c (key field text : ByteArray) (n : Int) : PCall Tryz.prog G 67 [.agg [iC 19, sC key, sC field, sC text, iC n]] (iV (checkCommand 19 key field text n)) := by
  refine pcallc mixed Tryz.func67 ac_value_CheckCommand ?_
  repeat' (first | (with_reducible first | refine Cn (fun h => ?_) fun h => ?_ | refine And.intro ?_ ?_ | refine wR ?_ | exact wr _ _ | refine wa ?_ | apply awp_join | refine q (field_c _) ?_ | refine qd (field_c _) ?_ | refine qz (field_c _) ?_ | refine q (text_c _) ?_ | refine qd (text_c _) ?_ | refine qz (text_c _) ?_ | refine q (count_c _) ?_ | refine qd (count_c _) ?_ | refine qz (count_c _) ?_) | (with_reducible refine CallZ.z ?_) | simp -dsimp [go_sem])
  all_goals (try simp_all [checkCommand, formOk])
  all_goals (intros; first | (simp_all; done) | trace_state)
theorem check20_c (key field text : ByteArray) (n : Int) : PCall Tryz.prog G 67 [.agg [iC 20, sC key, sC field, sC text, iC n]] (iV (checkCommand 20 key field text n)) := by
  refine pcallc mixed Tryz.func67 ac_value_CheckCommand ?_
  repeat' (first | (with_reducible first | refine Cn (fun h => ?_) fun h => ?_ | refine And.intro ?_ ?_ | refine wR ?_ | exact wr _ _ | refine wa ?_ | apply awp_join | refine q (field_c _) ?_ | refine qd (field_c _) ?_ | refine qz (field_c _) ?_ | refine q (text_c _) ?_ | refine qd (text_c _) ?_ | refine qz (text_c _) ?_ | refine q (count_c _) ?_ | refine qd (count_c _) ?_ | refine qz (count_c _) ?_) | (with_reducible refine CallZ.z ?_) | simp -dsimp [go_sem])
  all_goals (try simp_all [checkCommand, formOk])
  all_goals (intros; first | (simp_all; done) | trace_state)
theorem check21_c (key field text : ByteArray) (n : Int) : PCall Tryz.prog G 67 [.agg [iC 21, sC key, sC field, sC text, iC n]] (iV (checkCommand 21 key field text n)) := by
  refine pcallc mixed Tryz.func67 ac_value_CheckCommand ?_
  repeat' (first | (with_reducible first | refine Cn (fun h => ?_) fun h => ?_ | refine And.intro ?_ ?_ | refine wR ?_ | exact wr _ _ | refine wa ?_ | apply awp_join | refine q (field_c _) ?_ | refine qd (field_c _) ?_ | refine qz (field_c _) ?_ | refine q (text_c _) ?_ | refine qd (text_c _) ?_ | refine qz (text_c _) ?_ | refine q (count_c _) ?_ | refine qd (count_c _) ?_ | refine qz (count_c _) ?_) | (with_reducible refine CallZ.z ?_) | simp -dsimp [go_sem])
  all_goals (try simp_all [checkCommand, formOk])
  all_goals (intros; first | (simp_all; done) | trace_state)
theorem check22_c (key field text : ByteArray) (n : Int) : PCall Tryz.prog G 67 [.agg [iC 22, sC key, sC field, sC text, iC n]] (iV (checkCommand 22 key field text n)) := by
  refine pcallc mixed Tryz.func67 ac_value_CheckCommand ?_
  repeat' (first | (with_reducible first | refine Cn (fun h => ?_) fun h => ?_ | refine And.intro ?_ ?_ | refine wR ?_ | exact wr _ _ | refine wa ?_ | apply awp_join | refine q (field_c _) ?_ | refine qd (field_c _) ?_ | refine qz (field_c _) ?_ | refine q (text_c _) ?_ | refine qd (text_c _) ?_ | refine qz (text_c _) ?_ | refine q (count_c _) ?_ | refine qd (count_c _) ?_ | refine qz (count_c _) ?_) | (with_reducible refine CallZ.z ?_) | simp -dsimp [go_sem])
  all_goals (try simp_all [checkCommand, formOk])
  all_goals (intros; first | (simp_all; done) | trace_state)
theorem check_c (k : Int) (key field text : ByteArray) (n : Int) : PCall Tryz.prog G 67 [.agg [iC k, sC key, sC field, sC text, iC n]] (iV (checkCommand k key field text n)) := by
  have hk : k < 1 ∨ 22 < k ∨ k = 1 ∨ k = 2 ∨ k = 3 ∨ k = 4 ∨ k = 5 ∨ k = 6 ∨ k = 7 ∨ k = 8 ∨ k = 9 ∨ k = 10 ∨ k = 11 ∨ k = 12 ∨ k = 13 ∨ k = 14 ∨ k = 15 ∨ k = 16 ∨ k = 17 ∨ k = 18 ∨ k = 19 ∨ k = 20 ∨ k = 21 ∨ k = 22 := by omega
  rcases hk with hk | hk | rfl | rfl | rfl | rfl | rfl | rfl | rfl | rfl | rfl | rfl | rfl | rfl | rfl | rfl | rfl | rfl | rfl | rfl | rfl | rfl | rfl | rfl
  · refine pcallc mixed Tryz.func67 ac_value_CheckCommand ?_
    simp -dsimp [go_sem, hk, checkCommand]
  · refine pcallc mixed Tryz.func67 ac_value_CheckCommand ?_
    have h' : ¬ k < 1 := by omega
    simp -dsimp [go_sem, hk, h', checkCommand]
  · exact check1_c key field text n
  · exact check2_c key field text n
  · exact check3_c key field text n
  · exact check4_c key field text n
  · exact check5_c key field text n
  · exact check6_c key field text n
  · exact check7_c key field text n
  · exact check8_c key field text n
  · exact check9_c key field text n
  · exact check10_c key field text n
  · exact check11_c key field text n
  · exact check12_c key field text n
  · exact check13_c key field text n
  · exact check14_c key field text n
  · exact check15_c key field text n
  · exact check16_c key field text n
  · exact check17_c key field text n
  · exact check18_c key field text n
  · exact check19_c key field text n
  · exact check20_c key field text n
  · exact check21_c key field text n
  · exact check22_c key field text n
end Go.Proofs.YtkkleopmambcnaaGreatDoor
set_option linter.unusedVariables false
set_option linter.unusedSimpArgs false
set_option maxRecDepth 100000
set_option maxHeartbeats 8000000
namespace Go.Proofs.YtkkleopmambcnaaGreatDoor
open Go Go.RowKit Go.Proofs.AE
variable {G : Nat → AV}
end Go.Proofs.YtkkleopmambcnaaGreatDoor
set_option linter.unusedVariables false
set_option linter.unusedSimpArgs false
namespace Go.Proofs.AE
open Go Go.RowKit
section
variable {P : Program} {k : Nat} {s : S}
def frSub (fr : List (Nat × AV)) : List (Nat × AV) → Prop
  | [] => True
  | (t, v) :: r => v = getF fr t ∧ frSub fr r
attribute [go_sem] frSub
theorem frSub_get {fr : List (Nat × AV)} : ∀ {fr' : List (Nat × AV)}, frSub fr fr' → ∀ t, getF fr' t = .any ∨ getF fr' t = getF fr t
  | [], _, t => .inl rfl
  | (u, v) :: r, ⟨h1, h2⟩, t => by
    simp only [getF]
    by_cases hu : u = t
    · subst hu; rw [if_pos rfl]; exact .inr h1
    · rw [if_neg hu]; exact frSub_get h2 t
theorem weak_fr {s' : S} (hg : s'.gl = s.gl) (hh : s'.hp = s.hp) (hf : frSub s.fr s'.fr) : Weak k s s' := by
  refine ⟨hg, fun n w ok μ a hst => ⟨ok, μ, ⟨hh ▸ hst.hr, hst.size, hst.defers, fun t => ?_, hg ▸ hst.gl⟩, by rw [hh]; exact (Step.refl hst.hr).far⟩⟩
  rcases frSub_get hf t with h | h
  · rw [h]; exact .any
  · rw [h]; exact hst.fr t
theorem awp_join {alts : List (List AOp × List (Nat × Nat))} {Q : Exit → S → Prop} (s0 : S) (h : allAlts P s (fun s' => Weak k s' s0) alts) (hq : Q .normal s0) : awp P k (.regD alts) Q s :=
  allAlts_mono (fun _ h => ⟨s0, h, hq⟩) h
theorem least {p : Nat → Prop} (h : ∃ n, p n) : ∃ n, p n ∧ ∀ m, p m → n ≤ m := by
  obtain ⟨n, hn⟩ := h
  induction n using Nat.strongRecOn with
  | _ n ih =>
    by_cases h : ∃ m, m < n ∧ p m
    · obtain ⟨m, h1, h2⟩ := h; exact ih m h1 h2
    · exact ⟨n, hn, fun m hm => Nat.le_of_not_lt fun hlt => h ⟨m, hlt, hm⟩⟩
def Again {σ : Type} (k : Nat) (st : σ → S) (A : σ → Prop) (m : σ → Nat) (x : σ) (s' : S) : Prop := ∃ x', Weak k s' (st x') ∧ A x' ∧ m x' < m x
theorem Again.fr {σ : Type} {st : σ → S} {A : σ → Prop} {m : σ → Nat} {x : σ} {s' : S} (x' : σ) (hg : (st x').gl = s'.gl) (hh : (st x').hp = s'.hp) (hf : frSub s'.fr (st x').fr) (hA : A x') (hm : m x' < m x) : Again k st A m x s' :=
  ⟨x', weak_fr hg hh hf, hA, hm⟩
theorem Again.view {σ : Type} {st : σ → S} {A : σ → Prop} {m : σ → Nat} {x : σ} {s' : S} (x' : σ) (F ρ : List Nat) (hg : (st x').gl = s'.gl) (hlen : ρ.length = (st x').hp.length) (hnd : ρ.Nodup) (hF : ∀ i, i ∈ F → i ∉ ρ)
    (hf : coeF s'.hp F ρ s'.fr (st x').fr) (hh : coeH s'.hp F ρ 0 (st x').hp) (hA : A x') (hm : m x' < m x) : Again 0 st A m x s' :=
  ⟨x', weak_of F ρ hg hlen hnd hF (fun i h => by omega) hf hh, hA, hm⟩
theorem Again.auto {σ : Type} {st : σ → S} {A : σ → Prop} {m : σ → Nat} {x : σ} {s' : S} (x' : σ) (hw : WA k s' (st x')) (hA : A x') (hm : m x' < m x) : Again k st A m x s' := ⟨x', weak_auto hw, hA, hm⟩
def LoopH (P : Program) (k : Nat) (c : ACode) (Q : Exit → S → Prop) (s : S) (_ : Held c) (_ : Held Q) : Prop := awp P k (.loop c) Q s
@[go_sem ↓] theorem awp_loop' {c : ACode} {Q : Exit → S → Prop} : awp P k (.loop c) Q s = LoopH P k c Q s ⟨⟩ ⟨⟩ := rfl
theorem awp_loop {σ : Type} (st : σ → S) (A : σ → Prop) (m : σ → Nat) {c : ACode} {Q : Exit → S → Prop} (x0 : σ) (h0 : Weak k s (st x0)) (hA : A x0)
    (hb : ∀ x, A x → awp P k c (thenA (Again k st A m x) Q) (st x)) {a : Held c} {b : Held Q} : LoopH P k c Q s a b := by
  unfold LoopH
  classical
  let I : S → Prop := fun s => ∃ x, A x ∧ s = st x
  have hex : ∀ s, I s → ∃ n, ∃ x, A x ∧ s = st x ∧ m x = n := fun s ⟨x, h1, h2⟩ => ⟨m x, x, h1, h2, rfl⟩
  let f : S → Nat := fun s => if h : I s then Classical.choose (least (hex s h)) else 0
  have hf : ∀ s, I s → (∃ x, A x ∧ s = st x ∧ m x = f s) ∧ ∀ x, A x → s = st x → f s ≤ m x := by
    intro s hs
    have hsp := Classical.choose_spec (least (hex s hs))
    have hfs : f s = Classical.choose (least (hex s hs)) := dif_pos hs
    rw [hfs]
    exact ⟨hsp.1, fun x h1 h2 => hsp.2 _ ⟨x, h1, h2, rfl⟩⟩
  refine ⟨I, f, ⟨st x0, h0, x0, hA, rfl⟩, fun s hs => ?_⟩
  obtain ⟨x, h1, h2, h3⟩ := (hf s hs).1
  have hbx := hb x h1
  rw [← h2] at hbx
  refine awp_mono (fun e s' he => ?_) hbx
  cases e with
  | normal =>
    obtain ⟨x', q1, q2, q3⟩ := he
    refine ⟨st x', q1, ⟨x', q2, rfl⟩, ?_⟩
    rw [← h3]
    exact Nat.lt_of_le_of_lt ((hf _ ⟨x', q2, rfl⟩).2 x' q2 rfl) q3
  | _ => exact he
end
end Go.Proofs.AE
set_option linter.unusedVariables false
set_option linter.unusedSimpArgs false
set_option maxRecDepth 100000
set_option maxHeartbeats 8000000
namespace Go.Proofs.YtkkleopmambcnaaGreatDoor
open Go Go.RowKit Go.Proofs.AE
variable {G : Nat → AV}
abbrev strRows (l : List ByteArray) : List (List V) := l.map fun s => [V.lit (.string s)]
def firstIdx (p : ByteArray → Bool) : Nat → List ByteArray → Int
  | _, [] => -1
  | i, s :: l => if p s then (i : Int) else firstIdx p (i + 1) l
theorem firstIdx_drop (p : ByteArray → Bool) (l : List ByteArray) {i : Nat} (h : i < l.length) : firstIdx p i (l.drop i) = if p l[i] then (i : Int) else firstIdx p (i + 1) (l.drop (i + 1)) := by
  rw [List.drop_eq_getElem_cons h]; rfl
theorem indexFunc_c (g : Nat) (p : ByteArray → Bool) (l : List ByteArray) (hl : (l.length : Int) ≤ 9223372036854775807) (he : enters Tryz.prog g = true) (hp : ∀ s, PCall Tryz.prog G g [sV s] (bV (p s))) :
    PCall Tryz.prog G 145 [.one (.v (.sl (strRows l))), .fn g [] []] (iV (firstIdx p 0 l)) := by
  refine pcallc mixed Tryz.func145 ac_slices_IndexFunc_string ?_
  simp -dsimp [go_sem]
  refine awp_loop (fun i : Nat => ⟨[(0, .one (.v (.sl (strRows l)))), (1, .fn g [] []), (7, iV l.length), (8, iV i)], G, []⟩) (fun i => i ≤ l.length ∧ firstIdx p 0 l = firstIdx p i (l.drop i)) (fun i => l.length - i) 0 (weak_auto ?_) ⟨Nat.zero_le _, rfl⟩ ?_
  · simp -dsimp [go_sem]
  · rintro i ⟨hi, hx⟩
    rw [hx]
    simp -dsimp [go_sem]
    refine Cnd.intro (fun h => ?_) (fun h => ?_)
    · have hlt : i < l.length := by simpa using h
      have hgi : (strRows l)[i]? = some [V.lit (.string l[i])] := by simp [strRows, hlt]
      simp -dsimp [go_sem, hgi, he]
      refine CallZ.l ((hp l[i]).kf rfl ?_)
      simp -dsimp [go_sem]
      rw [firstIdx_drop p l hlt]
      refine Cnd.intro (fun h => ?_) (fun h => ?_)
      · simp -dsimp [go_sem, h]
      · simp -dsimp [go_sem]
        have h' : p l[i] = false := by simpa using h
        rw [h']
        refine Again.auto (i + 1) ?_ ⟨hlt, rfl⟩ (by omega)
        rw [IntWalk.i64_in _ (by omega)]
        simp -dsimp [go_sem]
    · have hge : ¬ i < l.length := by simpa using h
      have : i = l.length := by omega
      simp -dsimp [go_sem, firstIdx, this]
theorem firstIdx_ge (p : ByteArray → Bool) : ∀ (l : List ByteArray) (i : Nat), (decide (0 ≤ firstIdx p i l)) = l.any p
  | [], _ => by simp [firstIdx]
  | s :: l, i => by
    simp only [firstIdx, List.any_cons]
    by_cases h : p s = true
    · simp [h]
    · have h' : p s = false := by simpa using h
      simpa [h'] using firstIdx_ge p l (i + 1)
theorem containsFunc_c (g : Nat) (p : ByteArray → Bool) (l : List ByteArray) (hl : (l.length : Int) ≤ 9223372036854775807) (he : enters Tryz.prog g = true) (hp : ∀ s, PCall Tryz.prog G g [sV s] (bV (p s))) :
    PCall Tryz.prog G 101 [.one (.v (.sl (strRows l))), .fn g [] []] (bV (l.any p)) := by
  refine pcallc mixed Tryz.func101 ac_slices_ContainsFunc_string ?_
  simp -dsimp [go_sem]
  refine CallZ.l ((indexFunc_c g p l hl he hp).kf rfl ?_)
  rw [← firstIdx_ge p l 0]
  simp -dsimp [go_sem]
theorem longText_c (s : ByteArray) : PCall Tryz.prog G 102 [sV s] (bV (decide (20 < (s.size : Int)))) := by
  refine pcallc mixed Tryz.func102 ac_client_CheckReply_1 ?_
  simp -dsimp [go_sem]
def checkReply (code : Int) (text : ByteArray) (n : Int) (l : List ByteArray) : Int :=
  if decide (code < 0) then 3 else if decide (13 < code) then 3 else if decide (20 < (text.size : Int)) then 1 else if decide (20 < (l.length : Int)) then 1
  else if l.any (fun s => decide (20 < (s.size : Int))) then 1 else if decide (n < -1099511627776) then 2 else if decide (1099511627776 < n) then 2 else 0
theorem checkReply_c (code : Int) (text : ByteArray) (n : Int) (l : List ByteArray) : PCall Tryz.prog G 65 [.agg [iC code, sC text, iC n, .v (.sl (strRows l))]] (iV (checkReply code text n l)) := by
  refine pcallc mixed Tryz.func65 ac_client_CheckReply ?_
  repeat' (first | (with_reducible first | refine Cn (fun h => ?_) fun h => ?_ | refine And.intro ?_ ?_ | refine wR ?_ | exact wr _ _ | refine wa ?_ | apply awp_join | refine q1 (by exact containsFunc_c _ _ l (by simp_all <;> omega) en102 longText_c) ?_ | refine q1d (by exact containsFunc_c _ _ l (by simp_all <;> omega) en102 longText_c) ?_) | (with_reducible refine CallZ.z ?_) | simp -dsimp [go_sem])
  all_goals ((try simp only [Bool.not_true, Bool.not_false] at *); simp only [checkReply, *]; rfl)
end Go.Proofs.YtkkleopmambcnaaGreatDoor
set_option linter.unusedVariables false
set_option linter.unusedSimpArgs false
set_option maxRecDepth 100000
set_option maxHeartbeats 8000000
namespace Go.Proofs.YtkkleopmambcnaaGreatDoor
open Go Go.RowKit Go.Proofs.AE
variable {G : Nat → AV}
def cmpB (a b : ByteArray) : Int := Lib.compareBytes a.data.toList b.data.toList
theorem compareString_w (a b : ByteArray) (w : World) :
    Calls Tryz.prog 172 #[.string a, .string b] w fun e w' => e = .returned (.int .i64 (cmpB a b)) ∧ w' = w := by
  go_enter Tryz.func172, Tryz.ntmps172
  go_wp2
  rw [run_callFunc_extern Tryz.func204 (by kernel_rfl) (by kernel_rfl) (by kernel_rfl) (e := Extern.BytealgCompare.compare) (by kernel_rfl), Lib.run_compareString]
  simp only [Result.andThen]
  rw [Oper.upon_value]
  go_wp2
  go_ret
  exact ⟨rfl, rfl⟩
theorem compareString_c (a b : ByteArray) : PCall Tryz.prog G 172 [sV a, sV b] (iV (cmpB a b)) := by
  intro w ok μ xs hr hg hargs
  cases hargs with | cons h1 ht =>
  cases ht with | cons h2 ht =>
  cases ht
  have e1 := lit_rel h1
  have e2 := lit_rel h2
  subst e1; subst e2
  refine (compareString_w a b w).mono ?_
  rintro e w' ⟨rfl, rfl⟩
  exact ⟨_, _, _, ok, μ, rfl, Step.refl hr, avlit rfl, List.eq_nil_of_length_eq_zero (by rw [← hr.len]; exact (by have := hr.len; simpa using this)), rfl⟩
theorem stringsCompare_c (a b : ByteArray) : PCall Tryz.prog G 143 [sV a, sV b] (iV (cmpB a b)) := by
  refine pcallc mixed Tryz.func143 ac_strings_Compare ?_
  repeat' (first | (with_reducible first | refine Cn (fun h => ?_) fun h => ?_ | refine And.intro ?_ ?_ | refine wR ?_ | exact wr _ _ | refine wa ?_ | apply awp_join | refine q (compareString_c _ _) ?_ | refine qd (compareString_c _ _) ?_ | refine qz (compareString_c _ _) ?_) | (with_reducible refine CallZ.z ?_) | simp -dsimp [go_sem])
theorem isNaNi_c (a : Int) : PCall Tryz.prog G 203 [iV a] (bV false) := by
  refine pcallc mixed Tryz.func203 ac_cmp_isNaN_int ?_
  simp -dsimp [go_sem]
def cmpI (a b : Int) : Int := if a < b then -1 else if a > b then 1 else 0
theorem cmpInt_c (a b : Int) : PCall Tryz.prog G 171 [iV a, iV b] (iV (cmpI a b)) := by
  refine pcallc mixed Tryz.func171 ac_cmp_Compare_int ?_
  unfold cmpI
  repeat' (first | (with_reducible first | refine Cn (fun h => ?_) fun h => ?_ | refine And.intro ?_ ?_ | refine wR ?_ | exact wr _ _ | refine wa ?_ | apply awp_join | refine q (isNaNi_c _) ?_ | refine qd (isNaNi_c _) ?_ | refine qz (isNaNi_c _) ?_) | (with_reducible refine CallZ.z ?_) | simp -dsimp [go_sem])
  all_goals (simp at *)
  all_goals (repeat' split) <;> first | rfl | omega
def insAt {α : Type} (l : List α) (i : Nat) (x : α) : List α := l.take i ++ x :: l.drop i
def delAt {α : Type} (l : List α) (i : Nat) : List α := l.take i ++ l.drop (i + 1)
end Go.Proofs.YtkkleopmambcnaaGreatDoor
set_option linter.unusedVariables false
set_option linter.unusedSimpArgs false
set_option maxRecDepth 100000
set_option maxHeartbeats 8000000
namespace Go.Proofs.YtkkleopmambcnaaGreatDoor
open Go Go.RowKit Go.Proofs.AE
variable {G : Nat → AV}
abbrev Pr := ByteArray × ByteArray
abbrev Sc := ByteArray × Int
abbrev row_api_Pair (p : Pr) : List V := [V.lit (.string p.1), V.lit (.string p.2)]
abbrev row_api_Score (p : Sc) : List V := [V.lit (.string p.1), V.lit (.int .i64 p.2)]
abbrev row_string (p : ByteArray) : List V := [V.lit (.string p)]
abbrev arg_api_Pair (p : Pr) : AV := .agg [sC p.1, sC p.2]
abbrev arg_api_Score (p : Sc) : AV := .agg [sC p.1, iC p.2]
abbrev arg_string (p : ByteArray) : AV := sV p
def firstI {α : Type} (p : α → Bool) : Nat → List α → Int
  | _, [] => -1
  | i, s :: l => if p s then (i : Int) else firstI p (i + 1) l
theorem firstI_drop {α : Type} (p : α → Bool) (l : List α) {i : Nat} (h : i < l.length) : firstI p i (l.drop i) = if p l[i] then (i : Int) else firstI p (i + 1) (l.drop (i + 1)) := by
  rw [List.drop_eq_getElem_cons h]; rfl
theorem firstI_ge {α : Type} (p : α → Bool) : ∀ (l : List α) (i : Nat), (decide (0 ≤ firstI p i l)) = l.any p
  | [], _ => by simp [firstI]
  | s :: l, i => by
    simp only [firstI, List.any_cons]
    by_cases h : p s = true
    · simp [h]
    · have h' : p s = false := by simpa using h
      simpa [h'] using firstI_ge p l (i + 1)
def rising {α : Type} (cmp : α → α → Int) : List α → Bool
  | a :: b :: r => decide (cmp a b < 0) && rising cmp (b :: r)
  | _ => true
theorem rising_drop {α : Type} (cmp : α → α → Int) (l : List α) {i : Nat} (h : i + 1 < l.length) : rising cmp (l.drop i) = (decide (cmp l[i] l[i + 1] < 0) && rising cmp (l.drop (i + 1))) := by
  rw [List.drop_eq_getElem_cons (by omega : i < l.length), List.drop_eq_getElem_cons h]; rfl
theorem indexFunc_api_Pair (g : Nat) (p : Pr → Bool) (l : List Pr) (hl : (l.length : Int) ≤ 9223372036854775807) (he : enters Tryz.prog g = true) (hp : ∀ s, PCall Tryz.prog G g [arg_api_Pair s] (bV (p s))) :
    PCall Tryz.prog G 168 [.one (.v (.sl (l.map row_api_Pair))), .fn g [] []] (iV (firstI p 0 l)) := by
  refine pcallc mixed Tryz.func168 ac_slices_IndexFunc_api_Pair ?_
  simp -dsimp [go_sem]
  refine awp_loop (fun i : Nat => ⟨[(0, .one (.v (.sl (l.map row_api_Pair)))), (1, .fn g [] []), (7, iV l.length), (8, iV i)], G, []⟩) (fun i => i ≤ l.length ∧ firstI p 0 l = firstI p i (l.drop i)) (fun i => l.length - i) 0 (weak_auto ?_) ⟨Nat.zero_le _, rfl⟩ ?_
  · simp -dsimp [go_sem]
  · rintro i ⟨hi, hx⟩
    rw [hx]
    simp -dsimp [go_sem]
    refine Cnd.intro (fun h => ?_) (fun h => ?_)
    · have hlt : i < l.length := by simpa using h
      have hgi : (l.map row_api_Pair)[i]? = some (row_api_Pair l[i]) := by simp [hlt]
      simp -dsimp [go_sem, hgi, he]
      refine CallZ.l ((hp l[i]).kf rfl ?_)
      simp -dsimp [go_sem]
      rw [firstI_drop p l hlt]
      refine Cnd.intro (fun h => ?_) (fun h => ?_)
      · simp -dsimp [go_sem, h]
      · simp -dsimp [go_sem]
        have h' : p l[i] = false := by simpa using h
        rw [h']
        refine Again.auto (i + 1) ?_ ⟨hlt, rfl⟩ (by omega)
        rw [IntWalk.i64_in _ (by omega)]
        simp -dsimp [go_sem]
    · have hge : ¬ i < l.length := by simpa using h
      have : i = l.length := by omega
      simp -dsimp [go_sem, firstI, this]
theorem containsFunc_api_Pair (g : Nat) (p : Pr → Bool) (l : List Pr) (hl : (l.length : Int) ≤ 9223372036854775807) (he : enters Tryz.prog g = true) (hp : ∀ s, PCall Tryz.prog G g [arg_api_Pair s] (bV (p s))) :
    PCall Tryz.prog G 133 [.one (.v (.sl (l.map row_api_Pair))), .fn g [] []] (bV (l.any p)) := by
  refine pcallc mixed Tryz.func133 ac_slices_ContainsFunc_api_Pair ?_
  simp -dsimp [go_sem]
  refine CallZ.l ((indexFunc_api_Pair g p l hl he hp).kf rfl ?_)
  rw [← firstI_ge p l 0]
  simp -dsimp [go_sem]
theorem indexFunc_api_Score (g : Nat) (p : Sc → Bool) (l : List Sc) (hl : (l.length : Int) ≤ 9223372036854775807) (he : enters Tryz.prog g = true) (hp : ∀ s, PCall Tryz.prog G g [arg_api_Score s] (bV (p s))) :
    PCall Tryz.prog G 169 [.one (.v (.sl (l.map row_api_Score))), .fn g [] []] (iV (firstI p 0 l)) := by
  refine pcallc mixed Tryz.func169 ac_slices_IndexFunc_api_Score ?_
  simp -dsimp [go_sem]
  refine awp_loop (fun i : Nat => ⟨[(0, .one (.v (.sl (l.map row_api_Score)))), (1, .fn g [] []), (7, iV l.length), (8, iV i)], G, []⟩) (fun i => i ≤ l.length ∧ firstI p 0 l = firstI p i (l.drop i)) (fun i => l.length - i) 0 (weak_auto ?_) ⟨Nat.zero_le _, rfl⟩ ?_
  · simp -dsimp [go_sem]
  · rintro i ⟨hi, hx⟩
    rw [hx]
    simp -dsimp [go_sem]
    refine Cnd.intro (fun h => ?_) (fun h => ?_)
    · have hlt : i < l.length := by simpa using h
      have hgi : (l.map row_api_Score)[i]? = some (row_api_Score l[i]) := by simp [hlt]
      simp -dsimp [go_sem, hgi, he]
      refine CallZ.l ((hp l[i]).kf rfl ?_)
      simp -dsimp [go_sem]
      rw [firstI_drop p l hlt]
      refine Cnd.intro (fun h => ?_) (fun h => ?_)
      · simp -dsimp [go_sem, h]
      · simp -dsimp [go_sem]
        have h' : p l[i] = false := by simpa using h
        rw [h']
        refine Again.auto (i + 1) ?_ ⟨hlt, rfl⟩ (by omega)
        rw [IntWalk.i64_in _ (by omega)]
        simp -dsimp [go_sem]
    · have hge : ¬ i < l.length := by simpa using h
      have : i = l.length := by omega
      simp -dsimp [go_sem, firstI, this]
theorem containsFunc_api_Score (g : Nat) (p : Sc → Bool) (l : List Sc) (hl : (l.length : Int) ≤ 9223372036854775807) (he : enters Tryz.prog g = true) (hp : ∀ s, PCall Tryz.prog G g [arg_api_Score s] (bV (p s))) :
    PCall Tryz.prog G 135 [.one (.v (.sl (l.map row_api_Score))), .fn g [] []] (bV (l.any p)) := by
  refine pcallc mixed Tryz.func135 ac_slices_ContainsFunc_api_Score ?_
  simp -dsimp [go_sem]
  refine CallZ.l ((indexFunc_api_Score g p l hl he hp).kf rfl ?_)
  rw [← firstI_ge p l 0]
  simp -dsimp [go_sem]
theorem rising_api_Pair (g : Nat) (cmp : Pr → Pr → Int) (l : List Pr) (hl : (l.length : Int) ≤ 9223372036854775806) (he : enters Tryz.prog g = true) (hp : ∀ a b, PCall Tryz.prog G g [arg_api_Pair a, arg_api_Pair b] (iV (cmp a b))) :
    PCall Tryz.prog G 138 [.one (.v (.sl (l.map row_api_Pair))), .fn g [] []] (bV (rising cmp l)) := by
  refine pcallc mixed Tryz.func138 ac_value_rising_api_Pair ?_
  simp -dsimp [go_sem]
  refine awp_loop (fun i : Nat => ⟨[(0, .one (.v (.sl (l.map row_api_Pair)))), (1, .fn g [] []), (5, iV ((i : Int) + 1))], G, []⟩) (fun i => (i = 0 ∨ i < l.length) ∧ rising cmp l = rising cmp (l.drop i)) (fun i => l.length - i) 0 (weak_auto ?_) ⟨.inl rfl, rfl⟩ ?_
  · simp -dsimp [go_sem]
  · rintro i ⟨hi, hx⟩
    rw [hx]
    have w1 : i < l.length → IntKind.i64.wrap (i : Int) = i := fun _ => IntWalk.i64_in _ (by omega)
    have w2 : IntKind.i64.wrap ((i : Int) + 1 + 1) = (i : Int) + 1 + 1 := IntWalk.i64_in _ (by omega)
    simp -dsimp [go_sem]
    refine Cnd.intro (fun h => ?_) (fun h => ?_)
    · have hlt : i + 1 < l.length := by simp at h; omega
      have w1 := w1 (by omega)
      obtain ⟨a, ha⟩ : ∃ a, l[i] = a := ⟨_, rfl⟩
      obtain ⟨b, hb⟩ : ∃ b, l[i + 1] = b := ⟨_, rfl⟩
      have hgi : l[i]? = some a := by rw [List.getElem?_eq_getElem (by omega), ha]
      have hgj : l[i + 1]? = some b := by rw [List.getElem?_eq_getElem hlt, hb]
      have t1 : ((i : Int) + 1).toNat = i + 1 := by omega
      rw [rising_drop cmp l hlt, ha, hb]
      have hc := hp a b
      repeat' (first | (with_reducible first | refine Cn (fun h => ?_) fun h => ?_ | refine And.intro ?_ ?_ | refine wR ?_ | exact wr _ _ | refine wa ?_ | apply awp_join | refine q hc ?_ | refine qd hc ?_ | refine qz hc ?_) | (with_reducible refine CallZ.z ?_) | simp -dsimp [go_sem, hgi, hgj, he, w1, w2, t1])
      all_goals first
        | omega
        | (intro h'; simp at h; omega)
        | (with_reducible refine Again.auto (i + 1) ?_ ?_ ?_)
      all_goals first
        | (simp -dsimp [go_sem]; done)
        | (refine ⟨.inr hlt, ?_⟩; simp at h; simp [h]; done)
        | (show l.length - (i + 1) < l.length - i; omega)
    · have hge : ¬ i + 1 < l.length := by simp at h; omega
      have : rising cmp (l.drop i) = true := by
        cases hd : l.drop i with
        | nil => rfl
        | cons a r =>
          cases r with
          | nil => rfl
          | cons b r =>
            have := congrArg List.length hd
            simp at this; omega
      simp -dsimp [go_sem, this]
theorem rising_api_Score (g : Nat) (cmp : Sc → Sc → Int) (l : List Sc) (hl : (l.length : Int) ≤ 9223372036854775806) (he : enters Tryz.prog g = true) (hp : ∀ a b, PCall Tryz.prog G g [arg_api_Score a, arg_api_Score b] (iV (cmp a b))) :
    PCall Tryz.prog G 140 [.one (.v (.sl (l.map row_api_Score))), .fn g [] []] (bV (rising cmp l)) := by
  refine pcallc mixed Tryz.func140 ac_value_rising_api_Score ?_
  simp -dsimp [go_sem]
  refine awp_loop (fun i : Nat => ⟨[(0, .one (.v (.sl (l.map row_api_Score)))), (1, .fn g [] []), (5, iV ((i : Int) + 1))], G, []⟩) (fun i => (i = 0 ∨ i < l.length) ∧ rising cmp l = rising cmp (l.drop i)) (fun i => l.length - i) 0 (weak_auto ?_) ⟨.inl rfl, rfl⟩ ?_
  · simp -dsimp [go_sem]
  · rintro i ⟨hi, hx⟩
    rw [hx]
    have w1 : i < l.length → IntKind.i64.wrap (i : Int) = i := fun _ => IntWalk.i64_in _ (by omega)
    have w2 : IntKind.i64.wrap ((i : Int) + 1 + 1) = (i : Int) + 1 + 1 := IntWalk.i64_in _ (by omega)
    simp -dsimp [go_sem]
    refine Cnd.intro (fun h => ?_) (fun h => ?_)
    · have hlt : i + 1 < l.length := by simp at h; omega
      have w1 := w1 (by omega)
      obtain ⟨a, ha⟩ : ∃ a, l[i] = a := ⟨_, rfl⟩
      obtain ⟨b, hb⟩ : ∃ b, l[i + 1] = b := ⟨_, rfl⟩
      have hgi : l[i]? = some a := by rw [List.getElem?_eq_getElem (by omega), ha]
      have hgj : l[i + 1]? = some b := by rw [List.getElem?_eq_getElem hlt, hb]
      have t1 : ((i : Int) + 1).toNat = i + 1 := by omega
      rw [rising_drop cmp l hlt, ha, hb]
      have hc := hp a b
      repeat' (first | (with_reducible first | refine Cn (fun h => ?_) fun h => ?_ | refine And.intro ?_ ?_ | refine wR ?_ | exact wr _ _ | refine wa ?_ | apply awp_join | refine q hc ?_ | refine qd hc ?_ | refine qz hc ?_) | (with_reducible refine CallZ.z ?_) | simp -dsimp [go_sem, hgi, hgj, he, w1, w2, t1])
      all_goals first
        | omega
        | (intro h'; simp at h; omega)
        | (with_reducible refine Again.auto (i + 1) ?_ ?_ ?_)
      all_goals first
        | (simp -dsimp [go_sem]; done)
        | (refine ⟨.inr hlt, ?_⟩; simp at h; simp [h]; done)
        | (show l.length - (i + 1) < l.length - i; omega)
    · have hge : ¬ i + 1 < l.length := by simp at h; omega
      have : rising cmp (l.drop i) = true := by
        cases hd : l.drop i with
        | nil => rfl
        | cons a r =>
          cases r with
          | nil => rfl
          | cons b r =>
            have := congrArg List.length hd
            simp at this; omega
      simp -dsimp [go_sem, this]
theorem rising_string (g : Nat) (cmp : ByteArray → ByteArray → Int) (l : List ByteArray) (hl : (l.length : Int) ≤ 9223372036854775806) (he : enters Tryz.prog g = true) (hp : ∀ a b, PCall Tryz.prog G g [arg_string a, arg_string b] (iV (cmp a b))) :
    PCall Tryz.prog G 142 [.one (.v (.sl (l.map row_string))), .fn g [] []] (bV (rising cmp l)) := by
  refine pcallc mixed Tryz.func142 ac_value_rising_string ?_
  simp -dsimp [go_sem]
  refine awp_loop (fun i : Nat => ⟨[(0, .one (.v (.sl (l.map row_string)))), (1, .fn g [] []), (5, iV ((i : Int) + 1))], G, []⟩) (fun i => (i = 0 ∨ i < l.length) ∧ rising cmp l = rising cmp (l.drop i)) (fun i => l.length - i) 0 (weak_auto ?_) ⟨.inl rfl, rfl⟩ ?_
  · simp -dsimp [go_sem]
  · rintro i ⟨hi, hx⟩
    rw [hx]
    have w1 : i < l.length → IntKind.i64.wrap (i : Int) = i := fun _ => IntWalk.i64_in _ (by omega)
    have w2 : IntKind.i64.wrap ((i : Int) + 1 + 1) = (i : Int) + 1 + 1 := IntWalk.i64_in _ (by omega)
    simp -dsimp [go_sem]
    refine Cnd.intro (fun h => ?_) (fun h => ?_)
    · have hlt : i + 1 < l.length := by simp at h; omega
      have w1 := w1 (by omega)
      obtain ⟨a, ha⟩ : ∃ a, l[i] = a := ⟨_, rfl⟩
      obtain ⟨b, hb⟩ : ∃ b, l[i + 1] = b := ⟨_, rfl⟩
      have hgi : l[i]? = some a := by rw [List.getElem?_eq_getElem (by omega), ha]
      have hgj : l[i + 1]? = some b := by rw [List.getElem?_eq_getElem hlt, hb]
      have t1 : ((i : Int) + 1).toNat = i + 1 := by omega
      rw [rising_drop cmp l hlt, ha, hb]
      have hc := hp a b
      repeat' (first | (with_reducible first | refine Cn (fun h => ?_) fun h => ?_ | refine And.intro ?_ ?_ | refine wR ?_ | exact wr _ _ | refine wa ?_ | apply awp_join | refine q hc ?_ | refine qd hc ?_ | refine qz hc ?_) | (with_reducible refine CallZ.z ?_) | simp -dsimp [go_sem, hgi, hgj, he, w1, w2, t1])
      all_goals first
        | omega
        | (intro h'; simp at h; omega)
        | (with_reducible refine Again.auto (i + 1) ?_ ?_ ?_)
      all_goals first
        | (simp -dsimp [go_sem]; done)
        | (refine ⟨.inr hlt, ?_⟩; simp at h; simp [h]; done)
        | (show l.length - (i + 1) < l.length - i; omega)
    · have hge : ¬ i + 1 < l.length := by simp at h; omega
      have : rising cmp (l.drop i) = true := by
        cases hd : l.drop i with
        | nil => rfl
        | cons a r =>
          cases r with
          | nil => rfl
          | cons b r =>
            have := congrArg List.length hd
            simp at this; omega
      simp -dsimp [go_sem, this]
end Go.Proofs.YtkkleopmambcnaaGreatDoor
set_option linter.unusedVariables false
set_option linter.unusedSimpArgs false
set_option maxRecDepth 100000
set_option maxHeartbeats 8000000
namespace Go.Proofs.YtkkleopmambcnaaGreatDoor
open Go Go.RowKit Go.Proofs.AE
variable {G : Nat → AV}
abbrev bF (a b : Pr) : Int := cmpB a.1 b.1
def bS (a b : Sc) : Int := if cmpI a.2 b.2 = 0 then cmpB a.1 b.1 else cmpI a.2 b.2
theorem byField_c (a b : Pr) : PCall Tryz.prog G 139 [arg_api_Pair a, arg_api_Pair b] (iV (bF a b)) := by
  refine pcallc mixed Tryz.func139 ac_value_byField ?_
  repeat' (first | (with_reducible first | refine Cn (fun h => ?_) fun h => ?_ | refine And.intro ?_ ?_ | refine wR ?_ | exact wr _ _ | refine wa ?_ | apply awp_join | refine q (stringsCompare_c _ _) ?_ | refine qd (stringsCompare_c _ _) ?_ | refine qz (stringsCompare_c _ _) ?_) | (with_reducible refine CallZ.z ?_) | simp -dsimp [go_sem])
theorem or2_c (a b : Int) : PCall Tryz.prog G 170 [.one (.v (.sl [[V.lit (.int .i64 a)], [V.lit (.int .i64 b)]]))] (iV (if a = 0 then b else a)) := by
  refine pcallc mixed Tryz.func170 ac_cmp_Or_int ?_
  simp -dsimp [go_sem]
  refine awp_loop (fun i : Nat => ⟨[(3, iV 0), (6, .one (.v (.sl [[V.lit (.int .i64 a)], [V.lit (.int .i64 b)]]))), (7, iV 2), (8, iV i)], G, []⟩) (fun i => i ≤ 2 ∧ (0 < i → a = 0) ∧ (1 < i → b = 0)) (fun i => 2 - i) 0 (weak_auto ?_) ⟨by omega, by omega, by omega⟩ ?_
  · simp -dsimp [go_sem]
  · rintro i ⟨h1, h2, h3⟩
    have hi : i = 0 ∨ i = 1 ∨ i = 2 := by omega
    rcases hi with rfl | rfl | rfl
    · by_cases h0 : a = 0
      · subst h0
        simp -dsimp [go_sem]
        refine Again.auto 1 ?_ (by simp) (by omega)
        rw [IntWalk.i64_in _ (by omega)]
        simp -dsimp [go_sem]
      · have h0' : (a != 0) = true := by simpa using h0
        simp -dsimp [go_sem, h0, h0']
    · have h0 := h2 (by omega)
      subst h0
      by_cases h0 : b = 0
      · subst h0
        simp -dsimp [go_sem]
        refine Again.auto 2 ?_ (by simp) (by omega)
        rw [IntWalk.i64_in _ (by omega)]
        simp -dsimp [go_sem]
      · have h0' : (b != 0) = true := by simpa using h0
        simp -dsimp [go_sem, h0, h0']
    · have h0 := h2 (by omega)
      have h0' := h3 (by omega)
      subst h0; subst h0'
      simp -dsimp [go_sem]
theorem byScore_c (a b : Sc) : PCall Tryz.prog G 141 [arg_api_Score a, arg_api_Score b] (iV (bS a b)) := by
  refine pcallc mixed Tryz.func141 ac_value_byScore ?_
  unfold bS
  repeat' (first | (with_reducible first | refine Cn (fun h => ?_) fun h => ?_ | refine And.intro ?_ ?_ | refine wR ?_ | exact wr _ _ | refine wa ?_ | apply awp_join | refine q (cmpInt_c _ _) ?_ | refine qd (cmpInt_c _ _) ?_ | refine qz (cmpInt_c _ _) ?_ | refine q (stringsCompare_c _ _) ?_ | refine qd (stringsCompare_c _ _) ?_ | refine qz (stringsCompare_c _ _) ?_ | refine q (or2_c _ _) ?_ | refine qd (or2_c _ _) ?_ | refine qz (or2_c _ _) ?_) | (with_reducible refine CallZ.z ?_) | simp -dsimp [go_sem])
def rankOf (l : List Sc) (m : ByteArray) : Int := firstI (fun s => decide (s.1 = m)) 0 l
theorem rankFn_c (m : ByteArray) (s : Sc) : DetCall Tryz.prog G 173 1 [some (.box 9 [sC m])] [arg_api_Score s, .one (.ptr 0 0)] (bV (decide (s.1 = m))) [some (.box 9 [sC m])] := by
  refine gcallc mixed Tryz.func173 ac_value_rank_1 ?_
  repeat' (first | (with_reducible first | refine Cn (fun h => ?_) fun h => ?_ | refine And.intro ?_ ?_ | refine wR ?_ | exact wr _ _ | refine wa ?_ | apply awp_join) | (with_reducible refine CallZ.z ?_) | simp -dsimp [go_sem])
theorem indexRank_c (m : ByteArray) (l : List Sc) (hl : (l.length : Int) ≤ 9223372036854775807) : DetCall Tryz.prog G 169 1 [some (.box 9 [sC m])] [.one (.v (.sl (l.map row_api_Score))), .fn 173 [] [.ptr 0 0]] (iV (rankOf l m)) [some (.box 9 [sC m])] := by
  unfold rankOf
  generalize hp : (fun s : Sc => decide (s.1 = m)) = p
  have hpp : ∀ s : Sc, decide (s.1 = m) = p s := fun s => by rw [← hp]
  refine gcallc mixed Tryz.func169 ac_slices_IndexFunc_api_Score ?_
  simp -dsimp [go_sem]
  refine awp_loop (fun i : Nat => ⟨[(0, .one (.v (.sl (l.map row_api_Score)))), (1, .fn 173 [] [.ptr 0 0]), (7, iV l.length), (8, iV i)], G, [some (.box 9 [sC m])]⟩) (fun i => i ≤ l.length ∧ firstI p 0 l = firstI p i (l.drop i)) (fun i => l.length - i) 0 (weak_auto ?_) ⟨Nat.zero_le _, rfl⟩ ?_
  · simp -dsimp [go_sem]
  · rintro i ⟨hi, hx⟩
    rw [hx]
    simp -dsimp [go_sem]
    refine Cnd.intro (fun h => ?_) (fun h => ?_)
    · have hlt : i < l.length := by simpa using h
      obtain ⟨a, ha⟩ : ∃ a, l[i] = a := ⟨_, rfl⟩
      have hgi : l[i]? = some a := by rw [List.getElem?_eq_getElem (by omega), ha]
      have hc := rankFn_c (G := G) m a
      rw [hpp] at hc
      rw [firstI_drop p l hlt, ha]
      have w1 : IntKind.i64.wrap ((i : Int) + 1) = (i : Int) + 1 := IntWalk.i64_in _ (by omega)
      repeat' (first | (with_reducible first | refine Cn (fun h => ?_) fun h => ?_ | refine And.intro ?_ ?_ | refine wR ?_ | exact wr _ _ | refine wa ?_ | apply awp_join | refine qg hc ?_ | refine qgd hc ?_) | (with_reducible refine CallZ.z ?_) | simp -dsimp [go_sem, hgi, w1, en173])
      all_goals first
        | (with_reducible refine Again.auto (i + 1) ?_ ?_ ?_)
        | (simp_all; done)
        | skip
      all_goals first
        | (simp -dsimp [go_sem]; done)
        | (refine ⟨hlt, ?_⟩; simp_all; done)
        | (show l.length - (i + 1) < l.length - i; omega)
    · have hge : ¬ i < l.length := by simpa using h
      have : i = l.length := by omega
      simp -dsimp [go_sem, firstI, this]
theorem rank_c (m : ByteArray) (l : List Sc) (hl : (l.length : Int) ≤ 9223372036854775807) : PCall Tryz.prog G 144 [.one (.v (.sl (l.map row_api_Score))), sV m] (iV (rankOf l m)) := by
  refine pcallc mixed Tryz.func144 ac_value_rank ?_
  repeat' (first | (with_reducible first | refine Cn (fun h => ?_) fun h => ?_ | refine And.intro ?_ ?_ | refine wR ?_ | exact wr _ _ | refine wa ?_ | apply awp_join | refine qg (indexRank_c m l hl) ?_ | refine qgd (indexRank_c m l hl) ?_) | (with_reducible refine CallZ.z ?_) | simp -dsimp [go_sem])
structure Val where
  kind : Int
  text : ByteArray
  count : Int
  pairs : List Pr
  items : List ByteArray
  scores : List Sc
abbrev pR (l : List Pr) : List (List V) := l.map row_api_Pair
abbrev sR (l : List Sc) : List (List V) := l.map row_api_Score
def Val.c (v : Val) : List C := [iC v.kind, sC v.text, iC v.count, .v (.sl (pR v.pairs)), .v (.sl (strRows v.items)), .v (.sl (sR v.scores))]
def Val.els (v : Val) : Int := (v.pairs.length : Int) + v.items.length + v.scores.length
theorem elements_c (k n : Int) (t : ByteArray) (p i s : List (List V)) (h : p.length + i.length + s.length ≤ 1000000) : PCall Tryz.prog G 131 [.agg [iC k, sC t, iC n, .v (.sl p), .v (.sl i), .v (.sl s)]] (iV ((p.length + i.length + s.length : Nat) : Int)) := by
  have e1 : IntKind.i64.wrap ((p.length : Int) + i.length) = (p.length : Int) + i.length := IntWalk.i64_in _ (by omega)
  have e2 : IntKind.i64.wrap ((p.length : Int) + i.length + s.length) = (p.length : Int) + i.length + s.length := IntWalk.i64_in _ (by omega)
  refine pcallc mixed Tryz.func131 ac_value_elements ?_
  repeat' (first | (with_reducible first | refine Cn (fun h => ?_) fun h => ?_ | refine And.intro ?_ ?_ | refine wR ?_ | exact wr _ _ | refine wa ?_ | apply awp_join) | (with_reducible refine CallZ.z ?_) | simp -dsimp [go_sem, e1, e2])
def longS (s : ByteArray) : Bool := !okText s
def badP (p : Pr) : Bool := !okField p.1 || !okText p.2
def longM (s : Sc) : Bool := !okText s.1
def farN (s : Sc) : Bool := !okCount s.2
theorem checkFn1_c (s : ByteArray) : PCall Tryz.prog G 132 [sV s] (bV (longS s)) := by
  refine pcallc mixed Tryz.func132 ac_value_Check_1 ?_
  unfold longS
  repeat' (first | (with_reducible first | refine Cn (fun h => ?_) fun h => ?_ | refine And.intro ?_ ?_ | refine wR ?_ | exact wr _ _ | refine wa ?_ | apply awp_join | refine q (text_c _) ?_ | refine qd (text_c _) ?_ | refine qz (text_c _) ?_) | (with_reducible refine CallZ.z ?_) | simp -dsimp [go_sem])
theorem checkFn2_c (p : Pr) : PCall Tryz.prog G 134 [arg_api_Pair p] (bV (badP p)) := by
  refine pcallc mixed Tryz.func134 ac_value_Check_2 ?_
  unfold badP
  repeat' (first | (with_reducible first | refine Cn (fun h => ?_) fun h => ?_ | refine And.intro ?_ ?_ | refine wR ?_ | exact wr _ _ | refine wa ?_ | apply awp_join | refine q (text_c _) ?_ | refine qd (text_c _) ?_ | refine qz (text_c _) ?_ | refine q (field_c _) ?_ | refine qd (field_c _) ?_ | refine qz (field_c _) ?_ | refine q (text_c _) ?_ | refine qd (text_c _) ?_ | refine qz (text_c _) ?_ | refine q (field_c _) ?_ | refine qd (field_c _) ?_ | refine qz (field_c _) ?_) | (with_reducible refine CallZ.z ?_) | simp -dsimp [go_sem])
  all_goals simp_all
theorem checkFn3_c (s : Sc) : PCall Tryz.prog G 136 [arg_api_Score s] (bV (longM s)) := by
  refine pcallc mixed Tryz.func136 ac_value_Check_3 ?_
  unfold longM
  repeat' (first | (with_reducible first | refine Cn (fun h => ?_) fun h => ?_ | refine And.intro ?_ ?_ | refine wR ?_ | exact wr _ _ | refine wa ?_ | apply awp_join | refine q (text_c _) ?_ | refine qd (text_c _) ?_ | refine qz (text_c _) ?_) | (with_reducible refine CallZ.z ?_) | simp -dsimp [go_sem])
theorem checkFn4_c (s : Sc) : PCall Tryz.prog G 137 [arg_api_Score s] (bV (farN s)) := by
  refine pcallc mixed Tryz.func137 ac_value_Check_4 ?_
  unfold farN
  repeat' (first | (with_reducible first | refine Cn (fun h => ?_) fun h => ?_ | refine And.intro ?_ ?_ | refine wR ?_ | exact wr _ _ | refine wa ?_ | apply awp_join | refine q (count_c _) ?_ | refine qd (count_c _) ?_ | refine qz (count_c _) ?_) | (with_reducible refine CallZ.z ?_) | simp -dsimp [go_sem])
def onceB (l : List Sc) (i : Nat) : Bool := (List.range i).all fun j => match l[j]? with | some s => decide (rankOf (l.take j) s.1 < 0) | none => true
theorem onceB_succ (l : List Sc) {i : Nat} {s : Sc} (h : l[i]? = some s) : onceB l (i + 1) = (onceB l i && decide (rankOf (l.take i) s.1 < 0)) := by
  unfold onceB
  rw [List.range_succ, List.all_append]
  simp [h]
def Val.bad (v : Val) : Bool := (v.kind != 1 && decide (v.text ≠ ⟨#[]⟩)) || (v.kind != 2 && decide (v.count ≠ 0)) || decide (0 < (if v.kind = 3 then 0 else (v.pairs.length : Int)) + (if v.kind = 4 ∨ v.kind = 5 then 0 else (v.items.length : Int)) + (if v.kind = 6 then 0 else (v.scores.length : Int)))
def Val.ord (v : Val) : Bool := rising bF v.pairs && rising bS v.scores && (decide (v.kind ≠ 5) || rising cmpB v.items)
def Val.order (v : Val) : Bool := v.ord && onceB v.scores v.scores.length
theorem ul_s (l : List Sc) : UL 2 (sR l) := by
  intro r hr
  obtain ⟨y, _, rfl⟩ := List.mem_map.1 hr
  rfl
def checkV (v : Val) : Int :=
  if v.kind < 1 then 3 else if 6 < v.kind then 3 else if v.bad = true then 8
  else if 3 ≤ v.kind ∧ (v.els < 1 ∨ 20 < v.els) then 1
  else if (!okText v.text || v.items.any longS) = true then 1
  else if v.pairs.any badP = true then 1
  else if v.scores.any longM = true then 1
  else if (!okCount v.count || v.scores.any farN) = true then 2
  else if v.order = true then 0 else 10
def Val.Small (v : Val) : Prop := v.pairs.length ≤ 1000 ∧ v.items.length ≤ 1000 ∧ v.scores.length ≤ 1000
end Go.Proofs.YtkkleopmambcnaaGreatDoor
set_option linter.unusedVariables false
set_option linter.unusedSimpArgs false
set_option maxRecDepth 100000
set_option maxHeartbeats 8000000
namespace Go.Proofs.YtkkleopmambcnaaGreatDoor
open Go Go.RowKit Go.Proofs.AE
variable {G : Nat → AV}
def at_api_Pair (cmp : Pr → Pr → Int) (l : List Pr) (t : Pr) (i : Nat) : Bool := match l[i]? with | some a => cmp a t == 0 | none => false
abbrev lessB (a b : ByteArray) : Bool := Op.bytesLess a.data.toList b.data.toList
def at_string (l : List ByteArray) (t : ByteArray) (i : Nat) : Bool := match l[i]? with | some a => decide (a = t) | none => false
end Go.Proofs.YtkkleopmambcnaaGreatDoor
set_option linter.unusedVariables false
set_option linter.unusedSimpArgs false
set_option maxRecDepth 100000
set_option maxHeartbeats 8000000
namespace Go.Proofs.YtkkleopmambcnaaGreatDoor
open Go Go.RowKit Go.Proofs.AE
variable {G : Nat → AV}
theorem ul_one {k : Nat} {x : List V} (h : x.length = k) : UL k [x] := by
  intro r hr
  simp at hr
  subst hr
  exact h
end Go.Proofs.YtkkleopmambcnaaGreatDoor
set_option linter.unusedVariables false
set_option linter.unusedSimpArgs false
set_option maxRecDepth 100000
set_option maxHeartbeats 8000000
namespace Go.Proofs.YtkkleopmambcnaaGreatDoor
open Go Go.RowKit Go.Proofs.AE
variable {G : Nat → AV}
structure Cmd where
  kind : Int
  key : ByteArray
  field : ByteArray
  text : ByteArray
  n : Int
def Cmd.c (c : Cmd) : List C := [iC c.kind, sC c.key, sC c.field, sC c.text, iC c.n]
structure Rep where
  code : Int
  text : ByteArray
  n : Int
  list : List ByteArray
def Rep.c (r : Rep) : List C := [iC r.code, sC r.text, iC r.n, .v (.sl (strRows r.list))]
def toldR (n : Int) : Rep := ⟨0, ⟨#[]⟩, n, []⟩
def failR (e : Int) : Rep := ⟨e, ⟨#[]⟩, 0, []⟩
def textR (t : ByteArray) : Rep := ⟨0, t, 0, []⟩
def flagN (b : Bool) : Int := if b then 1 else 0
def plc {α : Type} (lt : α → Bool) (l : List α) : Nat := (l.takeWhile lt).length
theorem plc_lt {α : Type} (lt : α → Bool) : ∀ (l : List α) (j : Nat) (a : α), l[j]? = some a → j < plc lt l → lt a = true
  | [], j, a, h, _ => by simp at h
  | x :: l, j, a, h, hj => by
    unfold plc at hj
    rw [List.takeWhile_cons] at hj
    cases hx : lt x with
    | false => rw [hx] at hj; simp at hj
    | true =>
      rw [hx] at hj
      cases j with
      | zero => simp at h; subst h; exact hx
      | succ j => exact plc_lt lt l j a (by simpa using h) (by simpa [plc] using hj)
theorem rising_tail {α : Type} {cmp : α → α → Int} {x : α} {l : List α} (h : rising cmp (x :: l) = true) : rising cmp l = true := by
  cases l with
  | nil => rfl
  | cons y l => simp only [rising, Bool.and_eq_true] at h; exact h.2
theorem rising_head {α : Type} {cmp : α → α → Int} (tr : ∀ a b c, cmp a b < 0 → cmp b c < 0 → cmp a c < 0) : ∀ {l : List α} {x : α}, rising cmp (x :: l) = true → ∀ y ∈ l, cmp x y < 0
  | [], _, _, y, hy => by simp at hy
  | z :: l, x, h, y, hy => by
    have h' := h
    simp only [rising, Bool.and_eq_true, decide_eq_true_eq] at h'
    rcases List.mem_cons.1 hy with rfl | hy
    · exact h'.1
    · exact tr _ _ _ h'.1 (rising_head tr h'.2 y hy)
theorem plc_ge {α : Type} {cmp : α → α → Int} (lt : α → Bool) (tr : ∀ a b c, cmp a b < 0 → cmp b c < 0 → cmp a c < 0) (hlt : ∀ a b, cmp a b < 0 → lt b = true → lt a = true) : ∀ (l : List α), rising cmp l = true → ∀ (j : Nat) (a : α), l[j]? = some a → plc lt l ≤ j → lt a = false
  | [], _, j, a, h, _ => by simp at h
  | x :: l, hr, j, a, h, hj => by
    unfold plc at hj
    rw [List.takeWhile_cons] at hj
    cases hx : lt x with
    | true =>
      rw [hx] at hj
      cases j with
      | zero => simp at hj
      | succ j => exact plc_ge lt tr hlt l (rising_tail hr) j a (by simpa using h) (by simpa [plc] using hj)
    | false =>
      cases j with
      | zero => simp at h; subst h; exact hx
      | succ j =>
        have ha : a ∈ l := List.mem_of_getElem? (by simpa using h)
        cases hA : lt a with
        | false => rfl
        | true => rw [hlt x a (rising_head tr hr a ha) hA] at hx; cases hx
def hashAt (ps : List Pr) (f : ByteArray) : Nat := plc (fun p => decide (cmpB p.1 f < 0)) ps
def hashIn (ps : List Pr) (f : ByteArray) : Bool := at_api_Pair bF ps (f, ⟨#[]⟩) (hashAt ps f)
def hashV (ps : List Pr) (c : Cmd) : List Pr × Rep :=
  let i := hashAt ps c.field
  let there := hashIn ps c.field
  if c.kind = 4 then
    if there then (ps.set i ((ps[i]?.getD (c.field, c.text)).1, c.text), toldR 0)
    else if ps.length = 20 then (ps, failR 6)
    else (insAt ps i (c.field, c.text), toldR 1)
  else if c.kind = 5 then
    if there then (ps, textR (ps[i]?.getD (c.field, c.text)).2) else (ps, failR 5)
  else if there then (delAt ps i, toldR 1) else (ps, toldR 0)
theorem ul_p (l : List Pr) : UL 2 (pR l) := by
  intro r hr
  obtain ⟨y, _, rfl⟩ := List.mem_map.1 hr
  rfl
theorem ul_i (l : List ByteArray) : UL 1 (strRows l) := by
  intro r hr
  obtain ⟨y, _, rfl⟩ := List.mem_map.1 hr
  rfl
abbrev ownHp (k : Int) (t : ByteArray) (n : Int) (p i s : List (List V)) : Hp := [some (.box 91 [iC k, sC t, iC n, .ar 1, .ar 2, .ar 3]), some (.arr 151 2 p), some (.arr 9 1 i), some (.arr 154 2 s)]
end Go.Proofs.YtkkleopmambcnaaGreatDoor
set_option linter.unusedVariables false
set_option linter.unusedSimpArgs false
set_option maxRecDepth 100000
set_option maxHeartbeats 8000000
namespace Go.Proofs.YtkkleopmambcnaaGreatDoor
open Go Go.RowKit Go.Proofs.AE
variable {G : Nat → AV}
def listV (l : List ByteArray) (c : Cmd) : List ByteArray × Rep :=
  if c.kind ≤ 8 ∧ l.length = 20 then (l, failR 6)
  else if c.kind = 7 then (l ++ [c.text], toldR (l.length + 1))
  else if c.kind = 8 then (c.text :: l, toldR (l.length + 1))
  else if c.kind = 9 then (l.take (l.length - 1), textR (l[l.length - 1]?.getD ⟨#[]⟩))
  else (l.drop 1, textR (l[0]?.getD ⟨#[]⟩))
abbrev plainHp (k : Int) (t : ByteArray) (n : Int) (p i s : List (List V)) : Hp := [some (.box 91 [iC k, sC t, iC n, .v (.sl p), .v (.sl i), .v (.sl s)])]
end Go.Proofs.YtkkleopmambcnaaGreatDoor
set_option linter.unusedVariables false
set_option linter.unusedSimpArgs false
set_option maxRecDepth 100000
set_option maxHeartbeats 8000000
namespace Go.Proofs.YtkkleopmambcnaaGreatDoor
open Go Go.RowKit Go.Proofs.AE
variable {G : Nat → AV}
def setAt (l : List ByteArray) (t : ByteArray) : Nat := plc (fun a => lessB a t) l
def setIn (l : List ByteArray) (t : ByteArray) : Bool := at_string l t (setAt l t)
def setV (l : List ByteArray) (c : Cmd) : List ByteArray × Rep :=
  let i := setAt l c.text
  let there := setIn l c.text
  if c.kind = 11 then
    if there then (l, toldR 0) else if l.length = 20 then (l, failR 6) else (insAt l i c.text, toldR 1)
  else if c.kind = 12 then (if there then (delAt l i, toldR 1) else (l, toldR 0))
  else (l, toldR (flagN there))
theorem firstI_lt {α : Type} (p : α → Bool) : ∀ (l : List α) (i : Nat), firstI p i l = -1 ∨ ∃ j : Nat, firstI p i l = ((i + j : Nat) : Int) ∧ j < l.length
  | [], _ => .inl rfl
  | x :: l, i => by
    unfold firstI
    split
    · exact .inr ⟨0, by simp, by simp⟩
    · rcases firstI_lt p l (i + 1) with h | ⟨j, h, hj⟩
      · exact .inl h
      · exact .inr ⟨j + 1, by rw [h]; congr 1; omega, by simpa using hj⟩
theorem rankOf_cases (l : List Sc) (m : ByteArray) : rankOf l m = -1 ∨ ∃ j : Nat, rankOf l m = j ∧ j < l.length := by
  have := firstI_lt (fun s : Sc => decide (s.1 = m)) l 0
  simpa [rankOf] using this
def rankCut (l : List Sc) (m : ByteArray) : List Sc := if rankOf l m < 0 then l else delAt l (rankOf l m).toNat
def rankAt (l : List Sc) (m : ByteArray) (n : Int) : Nat := plc (fun a => decide (bS a (m, n) < 0)) l
def ranksV (l : List Sc) (c : Cmd) : List Sc × Rep :=
  let i := rankOf l c.text
  if c.kind = 16 then (l, if i < 0 then failR 5 else toldR i)
  else if c.kind = 15 then (rankCut l c.text, toldR (if i < 0 then 0 else 1))
  else if i < 0 ∧ l.length = 20 then (l, failR 6)
  else (insAt (rankCut l c.text) (rankAt (rankCut l c.text) c.text c.n) (c.text, c.n), toldR (if i < 0 then 1 else 0))
end Go.Proofs.YtkkleopmambcnaaGreatDoor
set_option linter.unusedVariables false
set_option linter.unusedSimpArgs false
set_option maxRecDepth 100000
set_option maxHeartbeats 8000000
namespace Go.Proofs.YtkkleopmambcnaaGreatDoor
open Go Go.RowKit Go.Proofs.AE
variable {G : Nat → AV}
theorem clone_api_Pair (rows : List (List V)) (hu : UL 2 rows) (hx : rows.length ≤ 1000000) : PCall Tryz.prog G 61 [.one (.v (.sl rows))] (.one (.v (.sl rows))) := by
  refine pcallc mixed Tryz.func61 ac_slices_Clone_api_Pair ?_
  repeat' (first | (with_reducible first | refine Cn (fun h => ?_) fun h => ?_ | refine And.intro ?_ ?_ | refine wR ?_ | exact wr _ _ | refine wa ?_ | apply awp_join | refine q (cases q) ?_ | refine qd (cases q) ?_ | refine qz (cases q) ?_) | (intro q hq) | (with_reducible refine CallZ.z ?_) | simp -dsimp [go_sem])
  all_goals first | omega | exact hu | exact hu _ ‹_› | simp_all
theorem clone_api_Score (rows : List (List V)) (hu : UL 2 rows) (hx : rows.length ≤ 1000000) : PCall Tryz.prog G 62 [.one (.v (.sl rows))] (.one (.v (.sl rows))) := by
  refine pcallc mixed Tryz.func62 ac_slices_Clone_api_Score ?_
  repeat' (first | (with_reducible first | refine Cn (fun h => ?_) fun h => ?_ | refine And.intro ?_ ?_ | refine wR ?_ | exact wr _ _ | refine wa ?_ | apply awp_join | refine q (cases q) ?_ | refine qd (cases q) ?_ | refine qz (cases q) ?_) | (intro q hq) | (with_reducible refine CallZ.z ?_) | simp -dsimp [go_sem])
  all_goals first | omega | exact hu | exact hu _ ‹_› | simp_all
theorem clone_string (rows : List (List V)) (hu : UL 1 rows) (hx : rows.length ≤ 1000000) : PCall Tryz.prog G 38 [.one (.v (.sl rows))] (.one (.v (.sl rows))) := by
  refine pcallc mixed Tryz.func38 ac_slices_Clone_string ?_
  repeat' (first | (with_reducible first | refine Cn (fun h => ?_) fun h => ?_ | refine And.intro ?_ ?_ | refine wR ?_ | exact wr _ _ | refine wa ?_ | apply awp_join | refine q (cases q) ?_ | refine qd (cases q) ?_ | refine qz (cases q) ?_) | (intro q hq) | (with_reducible refine CallZ.z ?_) | simp -dsimp [go_sem])
  all_goals first | omega | exact hu | exact hu _ ‹_› | simp_all
def allV (v : Val) : List ByteArray := v.items ++ v.pairs.map (·.1) ++ v.scores.map (·.1)
end Go.Proofs.YtkkleopmambcnaaGreatDoor
set_option linter.unusedVariables false
set_option linter.unusedSimpArgs false
set_option maxRecDepth 100000
set_option maxHeartbeats 8000000
namespace Go.Proofs.YtkkleopmambcnaaGreatDoor
open Go Go.RowKit Go.Proofs.AE
variable {G : Nat → AV}
def Val.plain (v : Val) : Hp := plainHp v.kind v.text v.count (pR v.pairs) (strRows v.items) (sR v.scores)
def Val.own (v : Val) : Hp := ownHp v.kind v.text v.count (pR v.pairs) (strRows v.items) (sR v.scores)
def doV (v : Val) (c : Cmd) : Val × Rep :=
  if c.kind = 1 then (⟨1, c.text, 0, [], [], []⟩, toldR 0)
  else if c.kind = 2 then (v, textR v.text)
  else if c.kind = 3 then (if okCount (v.count + c.n) = true then ({ v with count := v.count + c.n }, toldR (v.count + c.n)) else (v, failR 7))
  else if c.kind = 17 then (v, toldR v.els)
  else if c.kind = 18 then (v, ⟨0, ⟨#[]⟩, 0, allV v⟩)
  else if v.kind = 3 then ({ v with pairs := (hashV v.pairs c).1 }, (hashV v.pairs c).2)
  else if v.kind = 4 then ({ v with items := (listV v.items c).1 }, (listV v.items c).2)
  else if v.kind = 5 then ({ v with items := (setV v.items c).1 }, (setV v.items c).2)
  else ({ v with scores := (ranksV v.scores c).1 }, (ranksV v.scores c).2)
end Go.Proofs.YtkkleopmambcnaaGreatDoor
set_option linter.unusedVariables false
set_option linter.unusedSimpArgs false
set_option maxRecDepth 100000
set_option maxHeartbeats 8000000
namespace Go.Proofs.YtkkleopmambcnaaGreatDoor
open Go Go.RowKit Go.Proofs.AE
theorem cb_self : ∀ a : List UInt8, Lib.compareBytes a a = 0
  | [] => rfl
  | x :: a => by simp [Lib.compareBytes, UInt8.lt_irrefl, cb_self a]
theorem u8_cases (x y : UInt8) : (x < y ∧ ¬ y < x ∧ x ≠ y) ∨ (y < x ∧ ¬ x < y ∧ x ≠ y) ∨ (x = y ∧ ¬ x < y ∧ ¬ y < x) := by
  simp only [UInt8.lt_iff_toNat_lt]
  rcases Nat.lt_trichotomy x.toNat y.toNat with h | h | h
  · exact .inl ⟨h, by omega, fun e => by subst e; omega⟩
  · exact .inr (.inr ⟨UInt8.toNat_inj.1 h, by omega, by omega⟩)
  · exact .inr (.inl ⟨h, by omega, fun e => by subst e; omega⟩)
theorem cb_eq : ∀ {a b : List UInt8}, Lib.compareBytes a b = 0 → a = b
  | [], [], _ => rfl
  | [], _ :: _, h => by simp [Lib.compareBytes] at h
  | _ :: _, [], h => by simp [Lib.compareBytes] at h
  | x :: a, y :: b, h => by
    unfold Lib.compareBytes at h
    rcases u8_cases x y with ⟨h1, h2, h3⟩ | ⟨h1, h2, h3⟩ | ⟨h1, h2, h3⟩
    · rw [if_pos h1] at h; simp at h
    · rw [if_neg h2, if_pos h1] at h; simp at h
    · rw [if_neg h2, if_neg h3] at h; rw [h1, cb_eq h]
theorem cb_anti : ∀ a b : List UInt8, Lib.compareBytes b a = - Lib.compareBytes a b
  | [], [] => rfl
  | [], _ :: _ => by simp [Lib.compareBytes]
  | _ :: _, [] => by simp [Lib.compareBytes]
  | x :: a, y :: b => by
    unfold Lib.compareBytes
    rcases u8_cases x y with ⟨h1, h2, h3⟩ | ⟨h1, h2, h3⟩ | ⟨h1, h2, h3⟩
    · rw [if_neg h2, if_pos h1, if_pos h1]; rfl
    · rw [if_pos h1, if_neg h2, if_pos h1]
    · rw [if_neg h3, if_neg h2, if_neg h2, if_neg h3]; exact cb_anti a b
theorem cb_tr : ∀ {a b c : List UInt8}, Lib.compareBytes a b < 0 → Lib.compareBytes b c < 0 → Lib.compareBytes a c < 0
  | _, [], [], _, h => by simp [Lib.compareBytes] at h
  | _, _ :: _, [], _, h => by simp [Lib.compareBytes] at h
  | [], _, _ :: _, _, _ => by simp [Lib.compareBytes]
  | _ :: _, [], _, h, _ => by simp [Lib.compareBytes] at h
  | x :: a, y :: b, z :: c, h1, h2 => by
    unfold Lib.compareBytes at h1 h2 ⊢
    rcases u8_cases x y with ⟨p1, p2, p3⟩ | ⟨p1, p2, p3⟩ | ⟨p1, p2, p3⟩
    · rcases u8_cases y z with ⟨q1, q2, q3⟩ | ⟨q1, q2, q3⟩ | ⟨q1, q2, q3⟩
      · have : x < z := by simp only [UInt8.lt_iff_toNat_lt] at *; omega
        rw [if_pos this]; decide
      · rw [if_neg q2, if_pos q1] at h2; simp at h2
      · subst q1; rw [if_pos p1]; decide
    · rw [if_neg p2, if_pos p1] at h1; simp at h1
    · subst p1
      rw [if_neg p2, if_neg p3] at h1
      rcases u8_cases x z with ⟨q1, q2, q3⟩ | ⟨q1, q2, q3⟩ | ⟨q1, q2, q3⟩
      · rw [if_pos q1]; decide
      · rw [if_neg q2, if_pos q1] at h2; simp at h2
      · rw [if_neg q2, if_neg q3] at h2 ⊢
        exact cb_tr h1 h2
theorem cb_less : ∀ a b : List UInt8, Op.bytesLess a b = decide (Lib.compareBytes a b < 0)
  | [], [] => by simp [Op.bytesLess, Lib.compareBytes]
  | [], _ :: _ => by simp [Op.bytesLess, Lib.compareBytes]
  | _ :: _, [] => by simp [Op.bytesLess, Lib.compareBytes]
  | x :: a, y :: b => by
    unfold Lib.compareBytes Op.bytesLess
    rcases u8_cases x y with ⟨h1, h2, h3⟩ | ⟨h1, h2, h3⟩ | ⟨h1, h2, h3⟩
    · simp [h1]
    · simp [h1, h2, h3]
    · subst h1
      simp [h2, cb_less a b]
theorem ba_ext {a b : ByteArray} (h : a.data.toList = b.data.toList) : a = b := by
  cases a; cases b
  congr 1
  exact Array.ext' h
theorem cmpB_self (a : ByteArray) : cmpB a a = 0 := cb_self _
theorem cmpB_eq {a b : ByteArray} (h : cmpB a b = 0) : a = b := ba_ext (cb_eq h)
theorem cmpB_anti (a b : ByteArray) : cmpB b a = - cmpB a b := cb_anti _ _
theorem cmpB_tr (a b c : ByteArray) (h1 : cmpB a b < 0) (h2 : cmpB b c < 0) : cmpB a c < 0 := cb_tr h1 h2
theorem lessB_eq (a b : ByteArray) : lessB a b = decide (cmpB a b < 0) := cb_less _ _
theorem bF_tr (a b c : Pr) (h1 : bF a b < 0) (h2 : bF b c < 0) : bF a c < 0 := cmpB_tr _ _ _ h1 h2
theorem cmpI_lt (a b : Int) : cmpI a b < 0 ↔ a < b := by unfold cmpI; repeat' split <;> omega
theorem cmpI_zero (a b : Int) : cmpI a b = 0 ↔ a = b := by unfold cmpI; repeat' split <;> omega
theorem bS_lt (a b : Sc) : bS a b < 0 ↔ a.2 < b.2 ∨ (a.2 = b.2 ∧ cmpB a.1 b.1 < 0) := by
  unfold bS
  split
  · rename_i h
    rw [cmpI_zero] at h
    constructor
    · intro h'; exact .inr ⟨h, h'⟩
    · rintro (h' | ⟨_, h'⟩)
      · omega
      · exact h'
  · rename_i h
    rw [cmpI_zero] at h
    rw [cmpI_lt]
    constructor
    · intro h'; exact .inl h'
    · rintro (h' | ⟨h', _⟩)
      · exact h'
      · exact absurd h' h
theorem bS_tr (a b c : Sc) (h1 : bS a b < 0) (h2 : bS b c < 0) : bS a c < 0 := by
  rw [bS_lt] at *
  rcases h1 with h1 | ⟨h1, h1'⟩ <;> rcases h2 with h2 | ⟨h2, h2'⟩
  · exact .inl (by omega)
  · exact .inl (by omega)
  · exact .inl (by omega)
  · exact .inr ⟨by omega, cmpB_tr _ _ _ h1' h2'⟩
theorem hash_ge {ps : List Pr} (h : rising bF ps = true) (f : ByteArray) : ∀ (j : Nat) a, ps[j]? = some a → hashAt ps f ≤ j → 0 ≤ cmpB a.1 f := by
  intro j a h1 h2
  have := plc_ge (cmp := bF) (fun p : Pr => decide (cmpB p.1 f < 0)) bF_tr (fun a b h h' => by simp at h' ⊢; exact cmpB_tr _ _ _ h h') ps h j a h1 h2
  simpa using this
theorem set_ge {l : List ByteArray} (h : rising cmpB l = true) (t : ByteArray) : ∀ (j : Nat) a, l[j]? = some a → setAt l t ≤ j → lessB a t = false :=
  fun j a h1 h2 => plc_ge (cmp := cmpB) (fun a => lessB a t) cmpB_tr (fun a b h h' => by rw [lessB_eq] at h' ⊢; simp at h' ⊢; exact cmpB_tr _ _ _ h h') l h j a h1 h2
theorem rising_del {α : Type} {cmp : α → α → Int} (tr : ∀ a b c, cmp a b < 0 → cmp b c < 0 → cmp a c < 0) : ∀ (l : List α) (i : Nat), rising cmp l = true → rising cmp (delAt l i) = true
  | [], i, _ => by simp [delAt, rising]
  | x :: l, 0, h => by simpa [delAt] using rising_tail h
  | x :: l, i + 1, h => by
    have ih := rising_del tr l i (rising_tail h)
    have e : delAt (x :: l) (i + 1) = x :: delAt l i := by simp [delAt]
    rw [e]
    cases hd : delAt l i with
    | nil => rfl
    | cons y r =>
      rw [hd] at ih
      simp only [rising, Bool.and_eq_true, decide_eq_true_eq]
      refine ⟨rising_head tr h y ?_, ih⟩
      have : y ∈ delAt l i := by rw [hd]; exact List.mem_cons_self ..
      unfold delAt at this
      rcases List.mem_append.1 this with h | h
      · exact List.mem_of_mem_take h
      · exact List.mem_of_mem_drop h
theorem rank_ge {l : List Sc} (h : rising bS l = true) (m : ByteArray) (n : Int) : ∀ (j : Nat) a, (rankCut l m)[j]? = some a → rankAt (rankCut l m) m n ≤ j → 0 ≤ bS a (m, n) := by
  intro j a h1 h2
  have hr : rising bS (rankCut l m) = true := by
    unfold rankCut
    split
    · exact h
    · exact rising_del bS_tr l _ h
  have := plc_ge (cmp := bS) (fun a : Sc => decide (bS a (m, n) < 0)) bS_tr (fun a b h h' => by simp at h' ⊢; exact bS_tr _ _ _ h h') (rankCut l m) hr j a h1 h2
  simpa using this
theorem insAt_length {α : Type} (l : List α) (i : Nat) (x : α) : (insAt l i x).length = l.length + 1 := by unfold insAt; simp; omega
theorem delAt_length {α : Type} (l : List α) (i : Nat) : (delAt l i).length ≤ l.length := by unfold delAt; simp; omega
theorem rankCut_len (ps : List Sc) (m : ByteArray) : (rankCut ps m).length ≤ ps.length := by
  unfold rankCut
  split
  · exact Nat.le_refl _
  · exact delAt_length _ _
end Go.Proofs.YtkkleopmambcnaaGreatDoor
set_option linter.unusedVariables false
set_option linter.unusedSimpArgs false
set_option maxRecDepth 100000
set_option maxHeartbeats 8000000
namespace Go.Proofs.YtkkleopmambcnaaGreatDoor
open Go Go.RowKit Go.Proofs.AE
variable {G : Nat → AV}
theorem checkK1_c (v : Val) (hs : v.Small) (hk : v.kind = 1) : PCall Tryz.prog G 100 [.agg v.c] (iV (checkV v)) := by
  obtain ⟨k, t, n, p, l, s⟩ := v
  obtain ⟨s1, s2, s3⟩ := hs
  simp only at hk s1 s2 s3
  subst hk
  obtain ⟨b1, hb1⟩ : ∃ b, l.any longS = b := ⟨_, rfl⟩
  obtain ⟨b2, hb2⟩ : ∃ b, p.any badP = b := ⟨_, rfl⟩
  obtain ⟨b3, hb3⟩ : ∃ b, s.any longM = b := ⟨_, rfl⟩
  obtain ⟨b4, hb4⟩ : ∃ b, s.any farN = b := ⟨_, rfl⟩
  obtain ⟨b5, hb5⟩ : ∃ b, rising bF p = b := ⟨_, rfl⟩
  obtain ⟨b6, hb6⟩ : ∃ b, rising bS s = b := ⟨_, rfl⟩
  obtain ⟨b7, hb7⟩ : ∃ b, rising cmpB l = b := ⟨_, rfl⟩
  obtain ⟨b8, hb8⟩ : ∃ b, okText t = b := ⟨_, rfl⟩
  obtain ⟨b9, hb9⟩ : ∃ b, okCount n = b := ⟨_, rfl⟩
  obtain ⟨d, hd⟩ : ∃ b, (n != 0) = b := ⟨_, rfl⟩
  obtain ⟨d1, hd1⟩ : ∃ b, decide (t = ⟨#[]⟩) = b := ⟨_, rfl⟩
  have hC : checkV ⟨1, t, n, p, l, s⟩ = if ((1 != 1 && !d1) || (1 != 2 && d) || decide (0 < (if (1 : Int) = 3 then 0 else (p.length : Int)) + (if (1 : Int) = 4 ∨ (1 : Int) = 5 then 0 else (l.length : Int)) + (if (1 : Int) = 6 then 0 else (s.length : Int)))) = true then 8
      else if 3 ≤ (1 : Int) ∧ ((p.length : Int) + l.length + s.length < 1 ∨ 20 < (p.length : Int) + l.length + s.length) then 1 else if (!b8 || b1) = true then 1 else if b2 = true then 1 else if b3 = true then 1 else if (!b9 || b4) = true then 2
      else if ((b5 && b6 && (decide ((1 : Int) ≠ 5) || b7)) && onceB s s.length) = true then 0 else 10 := by
    simp only [checkV, Val.bad, Val.els, Val.order, Val.ord, hb1, hb2, hb3, hb4, hb5, hb6, hb7, hb8, hb9, ← hd, ← hd1]
    rw [if_neg (by decide), if_neg (by decide)]
    simp
  rw [hC]
  clear hC
  refine pcallc mixed Tryz.func100 ac_value_Check ?_
  unfold Val.c
  repeat' (first | (with_reducible first | refine Cn (fun h => ?_) fun h => ?_ | refine And.intro ?_ ?_ | refine wR ?_ | exact wr _ _ | refine wa ?_ | apply awp_join | refine q1 (by exact elements_c _ _ _ _ _ _ (by simp; omega)) ?_ | refine q1d (by exact elements_c _ _ _ _ _ _ (by simp; omega)) ?_ | refine q1 (by exact elements_c 1 n t [] (strRows l) (sR s) (by simp; omega)) ?_ | refine q1d (by exact elements_c 1 n t [] (strRows l) (sR s) (by simp; omega)) ?_ | refine q (elements_c 1 n t [] (strRows l) (sR s) (by simp; omega)) ?_ | refine qd (elements_c 1 n t [] (strRows l) (sR s) (by simp; omega)) ?_ | refine qz (elements_c 1 n t [] (strRows l) (sR s) (by simp; omega)) ?_ | refine q1 (by exact elements_c 1 n t (pR p) [] (sR s) (by simp; omega)) ?_ | refine q1d (by exact elements_c 1 n t (pR p) [] (sR s) (by simp; omega)) ?_ | refine q (elements_c 1 n t (pR p) [] (sR s) (by simp; omega)) ?_ | refine qd (elements_c 1 n t (pR p) [] (sR s) (by simp; omega)) ?_ | refine qz (elements_c 1 n t (pR p) [] (sR s) (by simp; omega)) ?_ | refine q1 (by exact elements_c 1 n t (pR p) (strRows l) [] (by simp; omega)) ?_ | refine q1d (by exact elements_c 1 n t (pR p) (strRows l) [] (by simp; omega)) ?_ | refine q (elements_c 1 n t (pR p) (strRows l) [] (by simp; omega)) ?_ | refine qd (elements_c 1 n t (pR p) (strRows l) [] (by simp; omega)) ?_ | refine qz (elements_c 1 n t (pR p) (strRows l) [] (by simp; omega)) ?_ | refine q (text_c _) ?_ | refine qd (text_c _) ?_ | refine qz (text_c _) ?_ | refine q1 (by exact containsFunc_c _ longS _ (by omega) en132 checkFn1_c) ?_ | refine q1d (by exact containsFunc_c _ longS _ (by omega) en132 checkFn1_c) ?_ | refine q1 (by exact containsFunc_api_Pair _ badP _ (by omega) en134 checkFn2_c) ?_ | refine q1d (by exact containsFunc_api_Pair _ badP _ (by omega) en134 checkFn2_c) ?_ | refine q1 (by exact containsFunc_api_Score _ longM _ (by omega) en136 checkFn3_c) ?_ | refine q1d (by exact containsFunc_api_Score _ longM _ (by omega) en136 checkFn3_c) ?_ | refine q (count_c _) ?_ | refine qd (count_c _) ?_ | refine qz (count_c _) ?_ | refine q1 (by exact containsFunc_api_Score _ farN _ (by omega) en137 checkFn4_c) ?_ | refine q1d (by exact containsFunc_api_Score _ farN _ (by omega) en137 checkFn4_c) ?_ | refine q1 (by exact rising_api_Pair _ bF _ (by omega) en139 byField_c) ?_ | refine q1d (by exact rising_api_Pair _ bF _ (by omega) en139 byField_c) ?_ | refine q1 (by exact rising_api_Score _ bS _ (by omega) en141 byScore_c) ?_ | refine q1d (by exact rising_api_Score _ bS _ (by omega) en141 byScore_c) ?_ | refine q1 (by exact rising_string _ cmpB _ (by omega) en143 stringsCompare_c) ?_ | refine q1d (by exact rising_string _ cmpB _ (by omega) en143 stringsCompare_c) ?_) | (with_reducible refine CallZ.z ?_) | simp -dsimp [go_sem, hb1, hb2, hb3, hb4, hb5, hb6, hb7, hb8, hb9, hd, hd1])
  all_goals first
    | (refine awp_loop (fun i : Nat => ⟨[(1, .one (.ptr 0 0)), (4, bV ((b5 && b6 && (decide ((1 : Int) ≠ 5) || b7)) && onceB s i)), (100, .one (.v (.sl (sR s)))), (101, iV s.length), (102, iV i)], G, [some (.box 91 (Val.mk 1 t n p l s).c)]⟩) (fun i => i ≤ s.length) (fun i => s.length - i) 0 (weak_auto ?_) (Nat.zero_le _) ?_
       · clear hb1 hb2 hb3 hb4 hb5 hb6 hb7 hb8 hb9 hd hd1
         simp_all -dsimp [go_sem, onceB, Val.c]
       · intro i hi
         have hul := ul_s s
         simp -dsimp [go_sem, Val.c]
         refine Cnd.intro (fun h => ?_) (fun h => ?_)
         · have hlt : i < s.length := by simpa using h
           obtain ⟨a, ha⟩ : ∃ a, s[i] = a := ⟨_, rfl⟩
           have hgi : s[i]? = some a := by rw [List.getElem?_eq_getElem hlt, ha]
           have w1 : IntKind.i64.wrap ((i : Int) + 1) = (i : Int) + 1 := IntWalk.i64_in _ (by omega)
           have hon := onceB_succ s hgi
           obtain ⟨o1, ho1⟩ : ∃ b, onceB s i = b := ⟨_, rfl⟩
           rw [ho1] at hon ⊢
           repeat' (first | (with_reducible first | refine Cn (fun h => ?_) fun h => ?_ | refine And.intro ?_ ?_ | refine wR ?_ | exact wr _ _ | refine wa ?_ | apply awp_join | refine q1 (by exact rank_c _ _ (by simp; omega)) ?_ | refine q1d (by exact rank_c _ _ (by simp; omega)) ?_) | (with_reducible refine CallZ.z ?_) | simp -dsimp [go_sem, hgi, w1, ← List.map_take])
           all_goals first
             | omega
             | assumption
             | (with_reducible refine Again.auto (i + 1) ?_ ?_ ?_)
           all_goals first
             | exact hlt
             | (show s.length - (i + 1) < s.length - i; omega)
             | (rw [hon]; clear hb1 hb2 hb3 hb4 hb5 hb6 hb7 hb8 hb9 hd hd1 hon; simp_all -dsimp [go_sem, Val.c]; done)
         · have hge : ¬ i < s.length := by simpa using h
           have : i = s.length := by omega
           subst this
           repeat' (first | (with_reducible first | refine Cn (fun h => ?_) fun h => ?_ | refine And.intro ?_ ?_ | refine wR ?_ | exact wr _ _ | refine wa ?_ | apply awp_join) | (with_reducible refine CallZ.z ?_) | simp -dsimp [go_sem])
           all_goals (clear hb1 hb2 hb3 hb4 hb5 hb6 hb7 hb8 hb9 hd hd1; (try simp_all); try first | omega | ((repeat' split) <;> first | rfl | omega | (exfalso; simp_all; done))))
    | (clear hb1 hb2 hb3 hb4 hb5 hb6 hb7 hb8 hb9 hd hd1; simp_all; done)
    | (clear hb1 hb2 hb3 hb4 hb5 hb6 hb7 hb8 hb9 hd hd1; simp_all; omega)
    | (clear hb1 hb2 hb3 hb4 hb5 hb6 hb7 hb8 hb9 hd hd1; simp_all; (try intros); (repeat' split) <;> first | rfl | omega | (simp_all; done) | (simp_all; omega))
theorem checkK2_c (v : Val) (hs : v.Small) (hk : v.kind = 2) : PCall Tryz.prog G 100 [.agg v.c] (iV (checkV v)) := by
  obtain ⟨k, t, n, p, l, s⟩ := v
  obtain ⟨s1, s2, s3⟩ := hs
  simp only at hk s1 s2 s3
  subst hk
  obtain ⟨b1, hb1⟩ : ∃ b, l.any longS = b := ⟨_, rfl⟩
  obtain ⟨b2, hb2⟩ : ∃ b, p.any badP = b := ⟨_, rfl⟩
  obtain ⟨b3, hb3⟩ : ∃ b, s.any longM = b := ⟨_, rfl⟩
  obtain ⟨b4, hb4⟩ : ∃ b, s.any farN = b := ⟨_, rfl⟩
  obtain ⟨b5, hb5⟩ : ∃ b, rising bF p = b := ⟨_, rfl⟩
  obtain ⟨b6, hb6⟩ : ∃ b, rising bS s = b := ⟨_, rfl⟩
  obtain ⟨b7, hb7⟩ : ∃ b, rising cmpB l = b := ⟨_, rfl⟩
  obtain ⟨b8, hb8⟩ : ∃ b, okText t = b := ⟨_, rfl⟩
  obtain ⟨b9, hb9⟩ : ∃ b, okCount n = b := ⟨_, rfl⟩
  obtain ⟨d, hd⟩ : ∃ b, (n != 0) = b := ⟨_, rfl⟩
  obtain ⟨d1, hd1⟩ : ∃ b, decide (t = ⟨#[]⟩) = b := ⟨_, rfl⟩
  have hC : checkV ⟨2, t, n, p, l, s⟩ = if ((2 != 1 && !d1) || (2 != 2 && d) || decide (0 < (if (2 : Int) = 3 then 0 else (p.length : Int)) + (if (2 : Int) = 4 ∨ (2 : Int) = 5 then 0 else (l.length : Int)) + (if (2 : Int) = 6 then 0 else (s.length : Int)))) = true then 8
      else if 3 ≤ (2 : Int) ∧ ((p.length : Int) + l.length + s.length < 1 ∨ 20 < (p.length : Int) + l.length + s.length) then 1 else if (!b8 || b1) = true then 1 else if b2 = true then 1 else if b3 = true then 1 else if (!b9 || b4) = true then 2
      else if ((b5 && b6 && (decide ((2 : Int) ≠ 5) || b7)) && onceB s s.length) = true then 0 else 10 := by
    simp only [checkV, Val.bad, Val.els, Val.order, Val.ord, hb1, hb2, hb3, hb4, hb5, hb6, hb7, hb8, hb9, ← hd, ← hd1]
    rw [if_neg (by decide), if_neg (by decide)]
    simp
  rw [hC]
  clear hC
  refine pcallc mixed Tryz.func100 ac_value_Check ?_
  unfold Val.c
  repeat' (first | (with_reducible first | refine Cn (fun h => ?_) fun h => ?_ | refine And.intro ?_ ?_ | refine wR ?_ | exact wr _ _ | refine wa ?_ | apply awp_join | refine q1 (by exact elements_c _ _ _ _ _ _ (by simp; omega)) ?_ | refine q1d (by exact elements_c _ _ _ _ _ _ (by simp; omega)) ?_ | refine q1 (by exact elements_c 2 n t [] (strRows l) (sR s) (by simp; omega)) ?_ | refine q1d (by exact elements_c 2 n t [] (strRows l) (sR s) (by simp; omega)) ?_ | refine q (elements_c 2 n t [] (strRows l) (sR s) (by simp; omega)) ?_ | refine qd (elements_c 2 n t [] (strRows l) (sR s) (by simp; omega)) ?_ | refine qz (elements_c 2 n t [] (strRows l) (sR s) (by simp; omega)) ?_ | refine q1 (by exact elements_c 2 n t (pR p) [] (sR s) (by simp; omega)) ?_ | refine q1d (by exact elements_c 2 n t (pR p) [] (sR s) (by simp; omega)) ?_ | refine q (elements_c 2 n t (pR p) [] (sR s) (by simp; omega)) ?_ | refine qd (elements_c 2 n t (pR p) [] (sR s) (by simp; omega)) ?_ | refine qz (elements_c 2 n t (pR p) [] (sR s) (by simp; omega)) ?_ | refine q1 (by exact elements_c 2 n t (pR p) (strRows l) [] (by simp; omega)) ?_ | refine q1d (by exact elements_c 2 n t (pR p) (strRows l) [] (by simp; omega)) ?_ | refine q (elements_c 2 n t (pR p) (strRows l) [] (by simp; omega)) ?_ | refine qd (elements_c 2 n t (pR p) (strRows l) [] (by simp; omega)) ?_ | refine qz (elements_c 2 n t (pR p) (strRows l) [] (by simp; omega)) ?_ | refine q (text_c _) ?_ | refine qd (text_c _) ?_ | refine qz (text_c _) ?_ | refine q1 (by exact containsFunc_c _ longS _ (by omega) en132 checkFn1_c) ?_ | refine q1d (by exact containsFunc_c _ longS _ (by omega) en132 checkFn1_c) ?_ | refine q1 (by exact containsFunc_api_Pair _ badP _ (by omega) en134 checkFn2_c) ?_ | refine q1d (by exact containsFunc_api_Pair _ badP _ (by omega) en134 checkFn2_c) ?_ | refine q1 (by exact containsFunc_api_Score _ longM _ (by omega) en136 checkFn3_c) ?_ | refine q1d (by exact containsFunc_api_Score _ longM _ (by omega) en136 checkFn3_c) ?_ | refine q (count_c _) ?_ | refine qd (count_c _) ?_ | refine qz (count_c _) ?_ | refine q1 (by exact containsFunc_api_Score _ farN _ (by omega) en137 checkFn4_c) ?_ | refine q1d (by exact containsFunc_api_Score _ farN _ (by omega) en137 checkFn4_c) ?_ | refine q1 (by exact rising_api_Pair _ bF _ (by omega) en139 byField_c) ?_ | refine q1d (by exact rising_api_Pair _ bF _ (by omega) en139 byField_c) ?_ | refine q1 (by exact rising_api_Score _ bS _ (by omega) en141 byScore_c) ?_ | refine q1d (by exact rising_api_Score _ bS _ (by omega) en141 byScore_c) ?_ | refine q1 (by exact rising_string _ cmpB _ (by omega) en143 stringsCompare_c) ?_ | refine q1d (by exact rising_string _ cmpB _ (by omega) en143 stringsCompare_c) ?_) | (with_reducible refine CallZ.z ?_) | simp -dsimp [go_sem, hb1, hb2, hb3, hb4, hb5, hb6, hb7, hb8, hb9, hd, hd1])
  all_goals first
    | (refine awp_loop (fun i : Nat => ⟨[(1, .one (.ptr 0 0)), (4, bV ((b5 && b6 && (decide ((2 : Int) ≠ 5) || b7)) && onceB s i)), (100, .one (.v (.sl (sR s)))), (101, iV s.length), (102, iV i)], G, [some (.box 91 (Val.mk 2 t n p l s).c)]⟩) (fun i => i ≤ s.length) (fun i => s.length - i) 0 (weak_auto ?_) (Nat.zero_le _) ?_
       · clear hb1 hb2 hb3 hb4 hb5 hb6 hb7 hb8 hb9 hd hd1
         simp_all -dsimp [go_sem, onceB, Val.c]
       · intro i hi
         have hul := ul_s s
         simp -dsimp [go_sem, Val.c]
         refine Cnd.intro (fun h => ?_) (fun h => ?_)
         · have hlt : i < s.length := by simpa using h
           obtain ⟨a, ha⟩ : ∃ a, s[i] = a := ⟨_, rfl⟩
           have hgi : s[i]? = some a := by rw [List.getElem?_eq_getElem hlt, ha]
           have w1 : IntKind.i64.wrap ((i : Int) + 1) = (i : Int) + 1 := IntWalk.i64_in _ (by omega)
           have hon := onceB_succ s hgi
           obtain ⟨o1, ho1⟩ : ∃ b, onceB s i = b := ⟨_, rfl⟩
           rw [ho1] at hon ⊢
           repeat' (first | (with_reducible first | refine Cn (fun h => ?_) fun h => ?_ | refine And.intro ?_ ?_ | refine wR ?_ | exact wr _ _ | refine wa ?_ | apply awp_join | refine q1 (by exact rank_c _ _ (by simp; omega)) ?_ | refine q1d (by exact rank_c _ _ (by simp; omega)) ?_) | (with_reducible refine CallZ.z ?_) | simp -dsimp [go_sem, hgi, w1, ← List.map_take])
           all_goals first
             | omega
             | assumption
             | (with_reducible refine Again.auto (i + 1) ?_ ?_ ?_)
           all_goals first
             | exact hlt
             | (show s.length - (i + 1) < s.length - i; omega)
             | (rw [hon]; clear hb1 hb2 hb3 hb4 hb5 hb6 hb7 hb8 hb9 hd hd1 hon; simp_all -dsimp [go_sem, Val.c]; done)
         · have hge : ¬ i < s.length := by simpa using h
           have : i = s.length := by omega
           subst this
           repeat' (first | (with_reducible first | refine Cn (fun h => ?_) fun h => ?_ | refine And.intro ?_ ?_ | refine wR ?_ | exact wr _ _ | refine wa ?_ | apply awp_join) | (with_reducible refine CallZ.z ?_) | simp -dsimp [go_sem])
           all_goals (clear hb1 hb2 hb3 hb4 hb5 hb6 hb7 hb8 hb9 hd hd1; (try simp_all); try first | omega | ((repeat' split) <;> first | rfl | omega | (exfalso; simp_all; done))))
    | (clear hb1 hb2 hb3 hb4 hb5 hb6 hb7 hb8 hb9 hd hd1; simp_all; done)
    | (clear hb1 hb2 hb3 hb4 hb5 hb6 hb7 hb8 hb9 hd hd1; simp_all; omega)
    | (clear hb1 hb2 hb3 hb4 hb5 hb6 hb7 hb8 hb9 hd hd1; simp_all; (try intros); (repeat' split) <;> first | rfl | omega | (simp_all; done) | (simp_all; omega))
theorem checkK3_c (v : Val) (hs : v.Small) (hk : v.kind = 3) : PCall Tryz.prog G 100 [.agg v.c] (iV (checkV v)) := by
  obtain ⟨k, t, n, p, l, s⟩ := v
  obtain ⟨s1, s2, s3⟩ := hs
  simp only at hk s1 s2 s3
  subst hk
  obtain ⟨b1, hb1⟩ : ∃ b, l.any longS = b := ⟨_, rfl⟩
  obtain ⟨b2, hb2⟩ : ∃ b, p.any badP = b := ⟨_, rfl⟩
  obtain ⟨b3, hb3⟩ : ∃ b, s.any longM = b := ⟨_, rfl⟩
  obtain ⟨b4, hb4⟩ : ∃ b, s.any farN = b := ⟨_, rfl⟩
  obtain ⟨b5, hb5⟩ : ∃ b, rising bF p = b := ⟨_, rfl⟩
  obtain ⟨b6, hb6⟩ : ∃ b, rising bS s = b := ⟨_, rfl⟩
  obtain ⟨b7, hb7⟩ : ∃ b, rising cmpB l = b := ⟨_, rfl⟩
  obtain ⟨b8, hb8⟩ : ∃ b, okText t = b := ⟨_, rfl⟩
  obtain ⟨b9, hb9⟩ : ∃ b, okCount n = b := ⟨_, rfl⟩
  obtain ⟨d, hd⟩ : ∃ b, (n != 0) = b := ⟨_, rfl⟩
  obtain ⟨d1, hd1⟩ : ∃ b, decide (t = ⟨#[]⟩) = b := ⟨_, rfl⟩
  have hC : checkV ⟨3, t, n, p, l, s⟩ = if ((3 != 1 && !d1) || (3 != 2 && d) || decide (0 < (if (3 : Int) = 3 then 0 else (p.length : Int)) + (if (3 : Int) = 4 ∨ (3 : Int) = 5 then 0 else (l.length : Int)) + (if (3 : Int) = 6 then 0 else (s.length : Int)))) = true then 8
      else if 3 ≤ (3 : Int) ∧ ((p.length : Int) + l.length + s.length < 1 ∨ 20 < (p.length : Int) + l.length + s.length) then 1 else if (!b8 || b1) = true then 1 else if b2 = true then 1 else if b3 = true then 1 else if (!b9 || b4) = true then 2
      else if ((b5 && b6 && (decide ((3 : Int) ≠ 5) || b7)) && onceB s s.length) = true then 0 else 10 := by
    simp only [checkV, Val.bad, Val.els, Val.order, Val.ord, hb1, hb2, hb3, hb4, hb5, hb6, hb7, hb8, hb9, ← hd, ← hd1]
    rw [if_neg (by decide), if_neg (by decide)]
    simp
  rw [hC]
  clear hC
  refine pcallc mixed Tryz.func100 ac_value_Check ?_
  unfold Val.c
  repeat' (first | (with_reducible first | refine Cn (fun h => ?_) fun h => ?_ | refine And.intro ?_ ?_ | refine wR ?_ | exact wr _ _ | refine wa ?_ | apply awp_join | refine q1 (by exact elements_c _ _ _ _ _ _ (by simp; omega)) ?_ | refine q1d (by exact elements_c _ _ _ _ _ _ (by simp; omega)) ?_ | refine q1 (by exact elements_c 3 n t [] (strRows l) (sR s) (by simp; omega)) ?_ | refine q1d (by exact elements_c 3 n t [] (strRows l) (sR s) (by simp; omega)) ?_ | refine q (elements_c 3 n t [] (strRows l) (sR s) (by simp; omega)) ?_ | refine qd (elements_c 3 n t [] (strRows l) (sR s) (by simp; omega)) ?_ | refine qz (elements_c 3 n t [] (strRows l) (sR s) (by simp; omega)) ?_ | refine q1 (by exact elements_c 3 n t (pR p) [] (sR s) (by simp; omega)) ?_ | refine q1d (by exact elements_c 3 n t (pR p) [] (sR s) (by simp; omega)) ?_ | refine q (elements_c 3 n t (pR p) [] (sR s) (by simp; omega)) ?_ | refine qd (elements_c 3 n t (pR p) [] (sR s) (by simp; omega)) ?_ | refine qz (elements_c 3 n t (pR p) [] (sR s) (by simp; omega)) ?_ | refine q1 (by exact elements_c 3 n t (pR p) (strRows l) [] (by simp; omega)) ?_ | refine q1d (by exact elements_c 3 n t (pR p) (strRows l) [] (by simp; omega)) ?_ | refine q (elements_c 3 n t (pR p) (strRows l) [] (by simp; omega)) ?_ | refine qd (elements_c 3 n t (pR p) (strRows l) [] (by simp; omega)) ?_ | refine qz (elements_c 3 n t (pR p) (strRows l) [] (by simp; omega)) ?_ | refine q (text_c _) ?_ | refine qd (text_c _) ?_ | refine qz (text_c _) ?_ | refine q1 (by exact containsFunc_c _ longS _ (by omega) en132 checkFn1_c) ?_ | refine q1d (by exact containsFunc_c _ longS _ (by omega) en132 checkFn1_c) ?_ | refine q1 (by exact containsFunc_api_Pair _ badP _ (by omega) en134 checkFn2_c) ?_ | refine q1d (by exact containsFunc_api_Pair _ badP _ (by omega) en134 checkFn2_c) ?_ | refine q1 (by exact containsFunc_api_Score _ longM _ (by omega) en136 checkFn3_c) ?_ | refine q1d (by exact containsFunc_api_Score _ longM _ (by omega) en136 checkFn3_c) ?_ | refine q (count_c _) ?_ | refine qd (count_c _) ?_ | refine qz (count_c _) ?_ | refine q1 (by exact containsFunc_api_Score _ farN _ (by omega) en137 checkFn4_c) ?_ | refine q1d (by exact containsFunc_api_Score _ farN _ (by omega) en137 checkFn4_c) ?_ | refine q1 (by exact rising_api_Pair _ bF _ (by omega) en139 byField_c) ?_ | refine q1d (by exact rising_api_Pair _ bF _ (by omega) en139 byField_c) ?_ | refine q1 (by exact rising_api_Score _ bS _ (by omega) en141 byScore_c) ?_ | refine q1d (by exact rising_api_Score _ bS _ (by omega) en141 byScore_c) ?_ | refine q1 (by exact rising_string _ cmpB _ (by omega) en143 stringsCompare_c) ?_ | refine q1d (by exact rising_string _ cmpB _ (by omega) en143 stringsCompare_c) ?_) | (with_reducible refine CallZ.z ?_) | simp -dsimp [go_sem, hb1, hb2, hb3, hb4, hb5, hb6, hb7, hb8, hb9, hd, hd1])
  all_goals first
    | (refine awp_loop (fun i : Nat => ⟨[(1, .one (.ptr 0 0)), (4, bV ((b5 && b6 && (decide ((3 : Int) ≠ 5) || b7)) && onceB s i)), (100, .one (.v (.sl (sR s)))), (101, iV s.length), (102, iV i)], G, [some (.box 91 (Val.mk 3 t n p l s).c)]⟩) (fun i => i ≤ s.length) (fun i => s.length - i) 0 (weak_auto ?_) (Nat.zero_le _) ?_
       · clear hb1 hb2 hb3 hb4 hb5 hb6 hb7 hb8 hb9 hd hd1
         simp_all -dsimp [go_sem, onceB, Val.c]
       · intro i hi
         have hul := ul_s s
         simp -dsimp [go_sem, Val.c]
         refine Cnd.intro (fun h => ?_) (fun h => ?_)
         · have hlt : i < s.length := by simpa using h
           obtain ⟨a, ha⟩ : ∃ a, s[i] = a := ⟨_, rfl⟩
           have hgi : s[i]? = some a := by rw [List.getElem?_eq_getElem hlt, ha]
           have w1 : IntKind.i64.wrap ((i : Int) + 1) = (i : Int) + 1 := IntWalk.i64_in _ (by omega)
           have hon := onceB_succ s hgi
           obtain ⟨o1, ho1⟩ : ∃ b, onceB s i = b := ⟨_, rfl⟩
           rw [ho1] at hon ⊢
           repeat' (first | (with_reducible first | refine Cn (fun h => ?_) fun h => ?_ | refine And.intro ?_ ?_ | refine wR ?_ | exact wr _ _ | refine wa ?_ | apply awp_join | refine q1 (by exact rank_c _ _ (by simp; omega)) ?_ | refine q1d (by exact rank_c _ _ (by simp; omega)) ?_) | (with_reducible refine CallZ.z ?_) | simp -dsimp [go_sem, hgi, w1, ← List.map_take])
           all_goals first
             | omega
             | assumption
             | (with_reducible refine Again.auto (i + 1) ?_ ?_ ?_)
           all_goals first
             | exact hlt
             | (show s.length - (i + 1) < s.length - i; omega)
             | (rw [hon]; clear hb1 hb2 hb3 hb4 hb5 hb6 hb7 hb8 hb9 hd hd1 hon; simp_all -dsimp [go_sem, Val.c]; done)
         · have hge : ¬ i < s.length := by simpa using h
           have : i = s.length := by omega
           subst this
           repeat' (first | (with_reducible first | refine Cn (fun h => ?_) fun h => ?_ | refine And.intro ?_ ?_ | refine wR ?_ | exact wr _ _ | refine wa ?_ | apply awp_join) | (with_reducible refine CallZ.z ?_) | simp -dsimp [go_sem])
           all_goals (clear hb1 hb2 hb3 hb4 hb5 hb6 hb7 hb8 hb9 hd hd1; (try simp_all); try first | omega | ((repeat' split) <;> first | rfl | omega | (exfalso; simp_all; done))))
    | (clear hb1 hb2 hb3 hb4 hb5 hb6 hb7 hb8 hb9 hd hd1; simp_all; done)
    | (clear hb1 hb2 hb3 hb4 hb5 hb6 hb7 hb8 hb9 hd hd1; simp_all; omega)
    | (clear hb1 hb2 hb3 hb4 hb5 hb6 hb7 hb8 hb9 hd hd1; simp_all; (try intros); (repeat' split) <;> first | rfl | omega | (simp_all; done) | (simp_all; omega))
end Go.Proofs.YtkkleopmambcnaaGreatDoor
set_option linter.unusedVariables false
set_option linter.unusedSimpArgs false
set_option maxRecDepth 100000
set_option maxHeartbeats 8000000
namespace Go.Proofs.YtkkleopmambcnaaGreatDoor
open Go Go.RowKit Go.Proofs.AE
variable {G : Nat → AV}
theorem checkK4_c (v : Val) (hs : v.Small) (hk : v.kind = 4) : PCall Tryz.prog G 100 [.agg v.c] (iV (checkV v)) := by
  obtain ⟨k, t, n, p, l, s⟩ := v
  obtain ⟨s1, s2, s3⟩ := hs
  simp only at hk s1 s2 s3
  subst hk
  obtain ⟨b1, hb1⟩ : ∃ b, l.any longS = b := ⟨_, rfl⟩
  obtain ⟨b2, hb2⟩ : ∃ b, p.any badP = b := ⟨_, rfl⟩
  obtain ⟨b3, hb3⟩ : ∃ b, s.any longM = b := ⟨_, rfl⟩
  obtain ⟨b4, hb4⟩ : ∃ b, s.any farN = b := ⟨_, rfl⟩
  obtain ⟨b5, hb5⟩ : ∃ b, rising bF p = b := ⟨_, rfl⟩
  obtain ⟨b6, hb6⟩ : ∃ b, rising bS s = b := ⟨_, rfl⟩
  obtain ⟨b7, hb7⟩ : ∃ b, rising cmpB l = b := ⟨_, rfl⟩
  obtain ⟨b8, hb8⟩ : ∃ b, okText t = b := ⟨_, rfl⟩
  obtain ⟨b9, hb9⟩ : ∃ b, okCount n = b := ⟨_, rfl⟩
  obtain ⟨d, hd⟩ : ∃ b, (n != 0) = b := ⟨_, rfl⟩
  obtain ⟨d1, hd1⟩ : ∃ b, decide (t = ⟨#[]⟩) = b := ⟨_, rfl⟩
  have hC : checkV ⟨4, t, n, p, l, s⟩ = if ((4 != 1 && !d1) || (4 != 2 && d) || decide (0 < (if (4 : Int) = 3 then 0 else (p.length : Int)) + (if (4 : Int) = 4 ∨ (4 : Int) = 5 then 0 else (l.length : Int)) + (if (4 : Int) = 6 then 0 else (s.length : Int)))) = true then 8
      else if 3 ≤ (4 : Int) ∧ ((p.length : Int) + l.length + s.length < 1 ∨ 20 < (p.length : Int) + l.length + s.length) then 1 else if (!b8 || b1) = true then 1 else if b2 = true then 1 else if b3 = true then 1 else if (!b9 || b4) = true then 2
      else if ((b5 && b6 && (decide ((4 : Int) ≠ 5) || b7)) && onceB s s.length) = true then 0 else 10 := by
    simp only [checkV, Val.bad, Val.els, Val.order, Val.ord, hb1, hb2, hb3, hb4, hb5, hb6, hb7, hb8, hb9, ← hd, ← hd1]
    rw [if_neg (by decide), if_neg (by decide)]
    simp
  rw [hC]
  clear hC
  refine pcallc mixed Tryz.func100 ac_value_Check ?_
  unfold Val.c
  repeat' (first | (with_reducible first | refine Cn (fun h => ?_) fun h => ?_ | refine And.intro ?_ ?_ | refine wR ?_ | exact wr _ _ | refine wa ?_ | apply awp_join | refine q1 (by exact elements_c _ _ _ _ _ _ (by simp; omega)) ?_ | refine q1d (by exact elements_c _ _ _ _ _ _ (by simp; omega)) ?_ | refine q1 (by exact elements_c 4 n t [] (strRows l) (sR s) (by simp; omega)) ?_ | refine q1d (by exact elements_c 4 n t [] (strRows l) (sR s) (by simp; omega)) ?_ | refine q (elements_c 4 n t [] (strRows l) (sR s) (by simp; omega)) ?_ | refine qd (elements_c 4 n t [] (strRows l) (sR s) (by simp; omega)) ?_ | refine qz (elements_c 4 n t [] (strRows l) (sR s) (by simp; omega)) ?_ | refine q1 (by exact elements_c 4 n t (pR p) [] (sR s) (by simp; omega)) ?_ | refine q1d (by exact elements_c 4 n t (pR p) [] (sR s) (by simp; omega)) ?_ | refine q (elements_c 4 n t (pR p) [] (sR s) (by simp; omega)) ?_ | refine qd (elements_c 4 n t (pR p) [] (sR s) (by simp; omega)) ?_ | refine qz (elements_c 4 n t (pR p) [] (sR s) (by simp; omega)) ?_ | refine q1 (by exact elements_c 4 n t (pR p) (strRows l) [] (by simp; omega)) ?_ | refine q1d (by exact elements_c 4 n t (pR p) (strRows l) [] (by simp; omega)) ?_ | refine q (elements_c 4 n t (pR p) (strRows l) [] (by simp; omega)) ?_ | refine qd (elements_c 4 n t (pR p) (strRows l) [] (by simp; omega)) ?_ | refine qz (elements_c 4 n t (pR p) (strRows l) [] (by simp; omega)) ?_ | refine q (text_c _) ?_ | refine qd (text_c _) ?_ | refine qz (text_c _) ?_ | refine q1 (by exact containsFunc_c _ longS _ (by omega) en132 checkFn1_c) ?_ | refine q1d (by exact containsFunc_c _ longS _ (by omega) en132 checkFn1_c) ?_ | refine q1 (by exact containsFunc_api_Pair _ badP _ (by omega) en134 checkFn2_c) ?_ | refine q1d (by exact containsFunc_api_Pair _ badP _ (by omega) en134 checkFn2_c) ?_ | refine q1 (by exact containsFunc_api_Score _ longM _ (by omega) en136 checkFn3_c) ?_ | refine q1d (by exact containsFunc_api_Score _ longM _ (by omega) en136 checkFn3_c) ?_ | refine q (count_c _) ?_ | refine qd (count_c _) ?_ | refine qz (count_c _) ?_ | refine q1 (by exact containsFunc_api_Score _ farN _ (by omega) en137 checkFn4_c) ?_ | refine q1d (by exact containsFunc_api_Score _ farN _ (by omega) en137 checkFn4_c) ?_ | refine q1 (by exact rising_api_Pair _ bF _ (by omega) en139 byField_c) ?_ | refine q1d (by exact rising_api_Pair _ bF _ (by omega) en139 byField_c) ?_ | refine q1 (by exact rising_api_Score _ bS _ (by omega) en141 byScore_c) ?_ | refine q1d (by exact rising_api_Score _ bS _ (by omega) en141 byScore_c) ?_ | refine q1 (by exact rising_string _ cmpB _ (by omega) en143 stringsCompare_c) ?_ | refine q1d (by exact rising_string _ cmpB _ (by omega) en143 stringsCompare_c) ?_) | (with_reducible refine CallZ.z ?_) | simp -dsimp [go_sem, hb1, hb2, hb3, hb4, hb5, hb6, hb7, hb8, hb9, hd, hd1])
  all_goals first
    | (refine awp_loop (fun i : Nat => ⟨[(1, .one (.ptr 0 0)), (4, bV ((b5 && b6 && (decide ((4 : Int) ≠ 5) || b7)) && onceB s i)), (100, .one (.v (.sl (sR s)))), (101, iV s.length), (102, iV i)], G, [some (.box 91 (Val.mk 4 t n p l s).c)]⟩) (fun i => i ≤ s.length) (fun i => s.length - i) 0 (weak_auto ?_) (Nat.zero_le _) ?_
       · clear hb1 hb2 hb3 hb4 hb5 hb6 hb7 hb8 hb9 hd hd1
         simp_all -dsimp [go_sem, onceB, Val.c]
       · intro i hi
         have hul := ul_s s
         simp -dsimp [go_sem, Val.c]
         refine Cnd.intro (fun h => ?_) (fun h => ?_)
         · have hlt : i < s.length := by simpa using h
           obtain ⟨a, ha⟩ : ∃ a, s[i] = a := ⟨_, rfl⟩
           have hgi : s[i]? = some a := by rw [List.getElem?_eq_getElem hlt, ha]
           have w1 : IntKind.i64.wrap ((i : Int) + 1) = (i : Int) + 1 := IntWalk.i64_in _ (by omega)
           have hon := onceB_succ s hgi
           obtain ⟨o1, ho1⟩ : ∃ b, onceB s i = b := ⟨_, rfl⟩
           rw [ho1] at hon ⊢
           repeat' (first | (with_reducible first | refine Cn (fun h => ?_) fun h => ?_ | refine And.intro ?_ ?_ | refine wR ?_ | exact wr _ _ | refine wa ?_ | apply awp_join | refine q1 (by exact rank_c _ _ (by simp; omega)) ?_ | refine q1d (by exact rank_c _ _ (by simp; omega)) ?_) | (with_reducible refine CallZ.z ?_) | simp -dsimp [go_sem, hgi, w1, ← List.map_take])
           all_goals first
             | omega
             | assumption
             | (with_reducible refine Again.auto (i + 1) ?_ ?_ ?_)
           all_goals first
             | exact hlt
             | (show s.length - (i + 1) < s.length - i; omega)
             | (rw [hon]; clear hb1 hb2 hb3 hb4 hb5 hb6 hb7 hb8 hb9 hd hd1 hon; simp_all -dsimp [go_sem, Val.c]; done)
         · have hge : ¬ i < s.length := by simpa using h
           have : i = s.length := by omega
           subst this
           repeat' (first | (with_reducible first | refine Cn (fun h => ?_) fun h => ?_ | refine And.intro ?_ ?_ | refine wR ?_ | exact wr _ _ | refine wa ?_ | apply awp_join) | (with_reducible refine CallZ.z ?_) | simp -dsimp [go_sem])
           all_goals (clear hb1 hb2 hb3 hb4 hb5 hb6 hb7 hb8 hb9 hd hd1; (try simp_all); try first | omega | ((repeat' split) <;> first | rfl | omega | (exfalso; simp_all; done))))
    | (clear hb1 hb2 hb3 hb4 hb5 hb6 hb7 hb8 hb9 hd hd1; simp_all; done)
    | (clear hb1 hb2 hb3 hb4 hb5 hb6 hb7 hb8 hb9 hd hd1; simp_all; omega)
    | (clear hb1 hb2 hb3 hb4 hb5 hb6 hb7 hb8 hb9 hd hd1; simp_all; (try intros); (repeat' split) <;> first | rfl | omega | (simp_all; done) | (simp_all; omega))
theorem checkK5_c (v : Val) (hs : v.Small) (hk : v.kind = 5) : PCall Tryz.prog G 100 [.agg v.c] (iV (checkV v)) := by
  obtain ⟨k, t, n, p, l, s⟩ := v
  obtain ⟨s1, s2, s3⟩ := hs
  simp only at hk s1 s2 s3
  subst hk
  obtain ⟨b1, hb1⟩ : ∃ b, l.any longS = b := ⟨_, rfl⟩
  obtain ⟨b2, hb2⟩ : ∃ b, p.any badP = b := ⟨_, rfl⟩
  obtain ⟨b3, hb3⟩ : ∃ b, s.any longM = b := ⟨_, rfl⟩
  obtain ⟨b4, hb4⟩ : ∃ b, s.any farN = b := ⟨_, rfl⟩
  obtain ⟨b5, hb5⟩ : ∃ b, rising bF p = b := ⟨_, rfl⟩
  obtain ⟨b6, hb6⟩ : ∃ b, rising bS s = b := ⟨_, rfl⟩
  obtain ⟨b7, hb7⟩ : ∃ b, rising cmpB l = b := ⟨_, rfl⟩
  obtain ⟨b8, hb8⟩ : ∃ b, okText t = b := ⟨_, rfl⟩
  obtain ⟨b9, hb9⟩ : ∃ b, okCount n = b := ⟨_, rfl⟩
  obtain ⟨d, hd⟩ : ∃ b, (n != 0) = b := ⟨_, rfl⟩
  obtain ⟨d1, hd1⟩ : ∃ b, decide (t = ⟨#[]⟩) = b := ⟨_, rfl⟩
  have hC : checkV ⟨5, t, n, p, l, s⟩ = if ((5 != 1 && !d1) || (5 != 2 && d) || decide (0 < (if (5 : Int) = 3 then 0 else (p.length : Int)) + (if (5 : Int) = 4 ∨ (5 : Int) = 5 then 0 else (l.length : Int)) + (if (5 : Int) = 6 then 0 else (s.length : Int)))) = true then 8
      else if 3 ≤ (5 : Int) ∧ ((p.length : Int) + l.length + s.length < 1 ∨ 20 < (p.length : Int) + l.length + s.length) then 1 else if (!b8 || b1) = true then 1 else if b2 = true then 1 else if b3 = true then 1 else if (!b9 || b4) = true then 2
      else if ((b5 && b6 && (decide ((5 : Int) ≠ 5) || b7)) && onceB s s.length) = true then 0 else 10 := by
    simp only [checkV, Val.bad, Val.els, Val.order, Val.ord, hb1, hb2, hb3, hb4, hb5, hb6, hb7, hb8, hb9, ← hd, ← hd1]
    rw [if_neg (by decide), if_neg (by decide)]
    simp
  rw [hC]
  clear hC
  refine pcallc mixed Tryz.func100 ac_value_Check ?_
  unfold Val.c
  repeat' (first | (with_reducible first | refine Cn (fun h => ?_) fun h => ?_ | refine And.intro ?_ ?_ | refine wR ?_ | exact wr _ _ | refine wa ?_ | apply awp_join | refine q1 (by exact elements_c _ _ _ _ _ _ (by simp; omega)) ?_ | refine q1d (by exact elements_c _ _ _ _ _ _ (by simp; omega)) ?_ | refine q1 (by exact elements_c 5 n t [] (strRows l) (sR s) (by simp; omega)) ?_ | refine q1d (by exact elements_c 5 n t [] (strRows l) (sR s) (by simp; omega)) ?_ | refine q (elements_c 5 n t [] (strRows l) (sR s) (by simp; omega)) ?_ | refine qd (elements_c 5 n t [] (strRows l) (sR s) (by simp; omega)) ?_ | refine qz (elements_c 5 n t [] (strRows l) (sR s) (by simp; omega)) ?_ | refine q1 (by exact elements_c 5 n t (pR p) [] (sR s) (by simp; omega)) ?_ | refine q1d (by exact elements_c 5 n t (pR p) [] (sR s) (by simp; omega)) ?_ | refine q (elements_c 5 n t (pR p) [] (sR s) (by simp; omega)) ?_ | refine qd (elements_c 5 n t (pR p) [] (sR s) (by simp; omega)) ?_ | refine qz (elements_c 5 n t (pR p) [] (sR s) (by simp; omega)) ?_ | refine q1 (by exact elements_c 5 n t (pR p) (strRows l) [] (by simp; omega)) ?_ | refine q1d (by exact elements_c 5 n t (pR p) (strRows l) [] (by simp; omega)) ?_ | refine q (elements_c 5 n t (pR p) (strRows l) [] (by simp; omega)) ?_ | refine qd (elements_c 5 n t (pR p) (strRows l) [] (by simp; omega)) ?_ | refine qz (elements_c 5 n t (pR p) (strRows l) [] (by simp; omega)) ?_ | refine q (text_c _) ?_ | refine qd (text_c _) ?_ | refine qz (text_c _) ?_ | refine q1 (by exact containsFunc_c _ longS _ (by omega) en132 checkFn1_c) ?_ | refine q1d (by exact containsFunc_c _ longS _ (by omega) en132 checkFn1_c) ?_ | refine q1 (by exact containsFunc_api_Pair _ badP _ (by omega) en134 checkFn2_c) ?_ | refine q1d (by exact containsFunc_api_Pair _ badP _ (by omega) en134 checkFn2_c) ?_ | refine q1 (by exact containsFunc_api_Score _ longM _ (by omega) en136 checkFn3_c) ?_ | refine q1d (by exact containsFunc_api_Score _ longM _ (by omega) en136 checkFn3_c) ?_ | refine q (count_c _) ?_ | refine qd (count_c _) ?_ | refine qz (count_c _) ?_ | refine q1 (by exact containsFunc_api_Score _ farN _ (by omega) en137 checkFn4_c) ?_ | refine q1d (by exact containsFunc_api_Score _ farN _ (by omega) en137 checkFn4_c) ?_ | refine q1 (by exact rising_api_Pair _ bF _ (by omega) en139 byField_c) ?_ | refine q1d (by exact rising_api_Pair _ bF _ (by omega) en139 byField_c) ?_ | refine q1 (by exact rising_api_Score _ bS _ (by omega) en141 byScore_c) ?_ | refine q1d (by exact rising_api_Score _ bS _ (by omega) en141 byScore_c) ?_ | refine q1 (by exact rising_string _ cmpB _ (by omega) en143 stringsCompare_c) ?_ | refine q1d (by exact rising_string _ cmpB _ (by omega) en143 stringsCompare_c) ?_) | (with_reducible refine CallZ.z ?_) | simp -dsimp [go_sem, hb1, hb2, hb3, hb4, hb5, hb6, hb7, hb8, hb9, hd, hd1])
  all_goals first
    | (refine awp_loop (fun i : Nat => ⟨[(1, .one (.ptr 0 0)), (4, bV ((b5 && b6 && (decide ((5 : Int) ≠ 5) || b7)) && onceB s i)), (100, .one (.v (.sl (sR s)))), (101, iV s.length), (102, iV i)], G, [some (.box 91 (Val.mk 5 t n p l s).c)]⟩) (fun i => i ≤ s.length) (fun i => s.length - i) 0 (weak_auto ?_) (Nat.zero_le _) ?_
       · clear hb1 hb2 hb3 hb4 hb5 hb6 hb7 hb8 hb9 hd hd1
         simp_all -dsimp [go_sem, onceB, Val.c]
       · intro i hi
         have hul := ul_s s
         simp -dsimp [go_sem, Val.c]
         refine Cnd.intro (fun h => ?_) (fun h => ?_)
         · have hlt : i < s.length := by simpa using h
           obtain ⟨a, ha⟩ : ∃ a, s[i] = a := ⟨_, rfl⟩
           have hgi : s[i]? = some a := by rw [List.getElem?_eq_getElem hlt, ha]
           have w1 : IntKind.i64.wrap ((i : Int) + 1) = (i : Int) + 1 := IntWalk.i64_in _ (by omega)
           have hon := onceB_succ s hgi
           obtain ⟨o1, ho1⟩ : ∃ b, onceB s i = b := ⟨_, rfl⟩
           rw [ho1] at hon ⊢
           repeat' (first | (with_reducible first | refine Cn (fun h => ?_) fun h => ?_ | refine And.intro ?_ ?_ | refine wR ?_ | exact wr _ _ | refine wa ?_ | apply awp_join | refine q1 (by exact rank_c _ _ (by simp; omega)) ?_ | refine q1d (by exact rank_c _ _ (by simp; omega)) ?_) | (with_reducible refine CallZ.z ?_) | simp -dsimp [go_sem, hgi, w1, ← List.map_take])
           all_goals first
             | omega
             | assumption
             | (with_reducible refine Again.auto (i + 1) ?_ ?_ ?_)
           all_goals first
             | exact hlt
             | (show s.length - (i + 1) < s.length - i; omega)
             | (rw [hon]; clear hb1 hb2 hb3 hb4 hb5 hb6 hb7 hb8 hb9 hd hd1 hon; simp_all -dsimp [go_sem, Val.c]; done)
         · have hge : ¬ i < s.length := by simpa using h
           have : i = s.length := by omega
           subst this
           repeat' (first | (with_reducible first | refine Cn (fun h => ?_) fun h => ?_ | refine And.intro ?_ ?_ | refine wR ?_ | exact wr _ _ | refine wa ?_ | apply awp_join) | (with_reducible refine CallZ.z ?_) | simp -dsimp [go_sem])
           all_goals (clear hb1 hb2 hb3 hb4 hb5 hb6 hb7 hb8 hb9 hd hd1; (try simp_all); try first | omega | ((repeat' split) <;> first | rfl | omega | (exfalso; simp_all; done))))
    | (clear hb1 hb2 hb3 hb4 hb5 hb6 hb7 hb8 hb9 hd hd1; simp_all; done)
    | (clear hb1 hb2 hb3 hb4 hb5 hb6 hb7 hb8 hb9 hd hd1; simp_all; omega)
    | (clear hb1 hb2 hb3 hb4 hb5 hb6 hb7 hb8 hb9 hd hd1; simp_all; (try intros); (repeat' split) <;> first | rfl | omega | (simp_all; done) | (simp_all; omega))
theorem checkK6_c (v : Val) (hs : v.Small) (hk : v.kind = 6) : PCall Tryz.prog G 100 [.agg v.c] (iV (checkV v)) := by
  obtain ⟨k, t, n, p, l, s⟩ := v
  obtain ⟨s1, s2, s3⟩ := hs
  simp only at hk s1 s2 s3
  subst hk
  obtain ⟨b1, hb1⟩ : ∃ b, l.any longS = b := ⟨_, rfl⟩
  obtain ⟨b2, hb2⟩ : ∃ b, p.any badP = b := ⟨_, rfl⟩
  obtain ⟨b3, hb3⟩ : ∃ b, s.any longM = b := ⟨_, rfl⟩
  obtain ⟨b4, hb4⟩ : ∃ b, s.any farN = b := ⟨_, rfl⟩
  obtain ⟨b5, hb5⟩ : ∃ b, rising bF p = b := ⟨_, rfl⟩
  obtain ⟨b6, hb6⟩ : ∃ b, rising bS s = b := ⟨_, rfl⟩
  obtain ⟨b7, hb7⟩ : ∃ b, rising cmpB l = b := ⟨_, rfl⟩
  obtain ⟨b8, hb8⟩ : ∃ b, okText t = b := ⟨_, rfl⟩
  obtain ⟨b9, hb9⟩ : ∃ b, okCount n = b := ⟨_, rfl⟩
  obtain ⟨d, hd⟩ : ∃ b, (n != 0) = b := ⟨_, rfl⟩
  obtain ⟨d1, hd1⟩ : ∃ b, decide (t = ⟨#[]⟩) = b := ⟨_, rfl⟩
  have hC : checkV ⟨6, t, n, p, l, s⟩ = if ((6 != 1 && !d1) || (6 != 2 && d) || decide (0 < (if (6 : Int) = 3 then 0 else (p.length : Int)) + (if (6 : Int) = 4 ∨ (6 : Int) = 5 then 0 else (l.length : Int)) + (if (6 : Int) = 6 then 0 else (s.length : Int)))) = true then 8
      else if 3 ≤ (6 : Int) ∧ ((p.length : Int) + l.length + s.length < 1 ∨ 20 < (p.length : Int) + l.length + s.length) then 1 else if (!b8 || b1) = true then 1 else if b2 = true then 1 else if b3 = true then 1 else if (!b9 || b4) = true then 2
      else if ((b5 && b6 && (decide ((6 : Int) ≠ 5) || b7)) && onceB s s.length) = true then 0 else 10 := by
    simp only [checkV, Val.bad, Val.els, Val.order, Val.ord, hb1, hb2, hb3, hb4, hb5, hb6, hb7, hb8, hb9, ← hd, ← hd1]
    rw [if_neg (by decide), if_neg (by decide)]
    simp
  rw [hC]
  clear hC
  refine pcallc mixed Tryz.func100 ac_value_Check ?_
  unfold Val.c
  repeat' (first | (with_reducible first | refine Cn (fun h => ?_) fun h => ?_ | refine And.intro ?_ ?_ | refine wR ?_ | exact wr _ _ | refine wa ?_ | apply awp_join | refine q1 (by exact elements_c _ _ _ _ _ _ (by simp; omega)) ?_ | refine q1d (by exact elements_c _ _ _ _ _ _ (by simp; omega)) ?_ | refine q1 (by exact elements_c 6 n t [] (strRows l) (sR s) (by simp; omega)) ?_ | refine q1d (by exact elements_c 6 n t [] (strRows l) (sR s) (by simp; omega)) ?_ | refine q (elements_c 6 n t [] (strRows l) (sR s) (by simp; omega)) ?_ | refine qd (elements_c 6 n t [] (strRows l) (sR s) (by simp; omega)) ?_ | refine qz (elements_c 6 n t [] (strRows l) (sR s) (by simp; omega)) ?_ | refine q1 (by exact elements_c 6 n t (pR p) [] (sR s) (by simp; omega)) ?_ | refine q1d (by exact elements_c 6 n t (pR p) [] (sR s) (by simp; omega)) ?_ | refine q (elements_c 6 n t (pR p) [] (sR s) (by simp; omega)) ?_ | refine qd (elements_c 6 n t (pR p) [] (sR s) (by simp; omega)) ?_ | refine qz (elements_c 6 n t (pR p) [] (sR s) (by simp; omega)) ?_ | refine q1 (by exact elements_c 6 n t (pR p) (strRows l) [] (by simp; omega)) ?_ | refine q1d (by exact elements_c 6 n t (pR p) (strRows l) [] (by simp; omega)) ?_ | refine q (elements_c 6 n t (pR p) (strRows l) [] (by simp; omega)) ?_ | refine qd (elements_c 6 n t (pR p) (strRows l) [] (by simp; omega)) ?_ | refine qz (elements_c 6 n t (pR p) (strRows l) [] (by simp; omega)) ?_ | refine q (text_c _) ?_ | refine qd (text_c _) ?_ | refine qz (text_c _) ?_ | refine q1 (by exact containsFunc_c _ longS _ (by omega) en132 checkFn1_c) ?_ | refine q1d (by exact containsFunc_c _ longS _ (by omega) en132 checkFn1_c) ?_ | refine q1 (by exact containsFunc_api_Pair _ badP _ (by omega) en134 checkFn2_c) ?_ | refine q1d (by exact containsFunc_api_Pair _ badP _ (by omega) en134 checkFn2_c) ?_ | refine q1 (by exact containsFunc_api_Score _ longM _ (by omega) en136 checkFn3_c) ?_ | refine q1d (by exact containsFunc_api_Score _ longM _ (by omega) en136 checkFn3_c) ?_ | refine q (count_c _) ?_ | refine qd (count_c _) ?_ | refine qz (count_c _) ?_ | refine q1 (by exact containsFunc_api_Score _ farN _ (by omega) en137 checkFn4_c) ?_ | refine q1d (by exact containsFunc_api_Score _ farN _ (by omega) en137 checkFn4_c) ?_ | refine q1 (by exact rising_api_Pair _ bF _ (by omega) en139 byField_c) ?_ | refine q1d (by exact rising_api_Pair _ bF _ (by omega) en139 byField_c) ?_ | refine q1 (by exact rising_api_Score _ bS _ (by omega) en141 byScore_c) ?_ | refine q1d (by exact rising_api_Score _ bS _ (by omega) en141 byScore_c) ?_ | refine q1 (by exact rising_string _ cmpB _ (by omega) en143 stringsCompare_c) ?_ | refine q1d (by exact rising_string _ cmpB _ (by omega) en143 stringsCompare_c) ?_) | (with_reducible refine CallZ.z ?_) | simp -dsimp [go_sem, hb1, hb2, hb3, hb4, hb5, hb6, hb7, hb8, hb9, hd, hd1])
  all_goals first
    | (refine awp_loop (fun i : Nat => ⟨[(1, .one (.ptr 0 0)), (4, bV ((b5 && b6 && (decide ((6 : Int) ≠ 5) || b7)) && onceB s i)), (100, .one (.v (.sl (sR s)))), (101, iV s.length), (102, iV i)], G, [some (.box 91 (Val.mk 6 t n p l s).c)]⟩) (fun i => i ≤ s.length) (fun i => s.length - i) 0 (weak_auto ?_) (Nat.zero_le _) ?_
       · clear hb1 hb2 hb3 hb4 hb5 hb6 hb7 hb8 hb9 hd hd1
         simp_all -dsimp [go_sem, onceB, Val.c]
       · intro i hi
         have hul := ul_s s
         simp -dsimp [go_sem, Val.c]
         refine Cnd.intro (fun h => ?_) (fun h => ?_)
         · have hlt : i < s.length := by simpa using h
           obtain ⟨a, ha⟩ : ∃ a, s[i] = a := ⟨_, rfl⟩
           have hgi : s[i]? = some a := by rw [List.getElem?_eq_getElem hlt, ha]
           have w1 : IntKind.i64.wrap ((i : Int) + 1) = (i : Int) + 1 := IntWalk.i64_in _ (by omega)
           have hon := onceB_succ s hgi
           obtain ⟨o1, ho1⟩ : ∃ b, onceB s i = b := ⟨_, rfl⟩
           rw [ho1] at hon ⊢
           repeat' (first | (with_reducible first | refine Cn (fun h => ?_) fun h => ?_ | refine And.intro ?_ ?_ | refine wR ?_ | exact wr _ _ | refine wa ?_ | apply awp_join | refine q1 (by exact rank_c _ _ (by simp; omega)) ?_ | refine q1d (by exact rank_c _ _ (by simp; omega)) ?_) | (with_reducible refine CallZ.z ?_) | simp -dsimp [go_sem, hgi, w1, ← List.map_take])
           all_goals first
             | omega
             | assumption
             | (with_reducible refine Again.auto (i + 1) ?_ ?_ ?_)
           all_goals first
             | exact hlt
             | (show s.length - (i + 1) < s.length - i; omega)
             | (rw [hon]; clear hb1 hb2 hb3 hb4 hb5 hb6 hb7 hb8 hb9 hd hd1 hon; simp_all -dsimp [go_sem, Val.c]; done)
         · have hge : ¬ i < s.length := by simpa using h
           have : i = s.length := by omega
           subst this
           repeat' (first | (with_reducible first | refine Cn (fun h => ?_) fun h => ?_ | refine And.intro ?_ ?_ | refine wR ?_ | exact wr _ _ | refine wa ?_ | apply awp_join) | (with_reducible refine CallZ.z ?_) | simp -dsimp [go_sem])
           all_goals (clear hb1 hb2 hb3 hb4 hb5 hb6 hb7 hb8 hb9 hd hd1; (try simp_all); try first | omega | ((repeat' split) <;> first | rfl | omega | (exfalso; simp_all; done))))
    | (clear hb1 hb2 hb3 hb4 hb5 hb6 hb7 hb8 hb9 hd hd1; simp_all; done)
    | (clear hb1 hb2 hb3 hb4 hb5 hb6 hb7 hb8 hb9 hd hd1; simp_all; omega)
    | (clear hb1 hb2 hb3 hb4 hb5 hb6 hb7 hb8 hb9 hd hd1; simp_all; (try intros); (repeat' split) <;> first | rfl | omega | (simp_all; done) | (simp_all; omega))
end Go.Proofs.YtkkleopmambcnaaGreatDoor
set_option linter.unusedVariables false
set_option linter.unusedSimpArgs false
set_option maxRecDepth 100000
set_option maxHeartbeats 8000000
namespace Go.Proofs.YtkkleopmambcnaaGreatDoor
open Go Go.RowKit Go.Proofs.AE
variable {G : Nat → AV}
theorem checkV_c (v : Val) (hs : v.Small) : PCall Tryz.prog G 100 [.agg v.c] (iV (checkV v)) := by
  have hk : v.kind < 1 ∨ 6 < v.kind ∨ v.kind = 1 ∨ v.kind = 2 ∨ v.kind = 3 ∨ v.kind = 4 ∨ v.kind = 5 ∨ v.kind = 6 := by omega
  rcases hk with hk | hk | hk | hk | hk | hk | hk | hk
  · refine pcallc mixed Tryz.func100 ac_value_Check ?_
    simp -dsimp [go_sem, hk, checkV, Val.c]
  · refine pcallc mixed Tryz.func100 ac_value_Check ?_
    have h' : ¬ v.kind < 1 := by omega
    simp -dsimp [go_sem, hk, h', checkV, Val.c]
  · exact checkK1_c v hs hk
  · exact checkK2_c v hs hk
  · exact checkK3_c v hs hk
  · exact checkK4_c v hs hk
  · exact checkK5_c v hs hk
  · exact checkK6_c v hs hk
end Go.Proofs.YtkkleopmambcnaaGreatDoor
set_option linter.unusedVariables false
set_option linter.unusedSimpArgs false
set_option maxRecDepth 100000
set_option maxHeartbeats 8000000
namespace Go.Proofs.YtkkleopmambcnaaGreatDoor
open Go Go.RowKit Go.Proofs.AE
variable {G : Nat → AV}
def Val.isNone (v : Val) : Bool := (v.kind == 0 && decide (v.text = ⟨#[]⟩)) && v.count == 0 && v.els == 0
def kindOfC (k : Int) : Int := if k = 2 then 1 else if k = 3 then 2 else if 4 ≤ k ∧ k ≤ 6 then 3 else if 7 ≤ k ∧ k ≤ 10 then 4 else if 11 ≤ k ∧ k ≤ 13 then 5 else if 14 ≤ k ∧ k ≤ 16 then 6 else 0
def makesC (k : Int) : Bool := k == 1 || k == 3 || k == 4 || k == 7 || k == 8 || k == 11 || k == 14
def zeroV : Val := ⟨0, ⟨#[]⟩, 0, [], [], []⟩
def checkC (c : Cmd) : Int := checkCommand c.kind c.key c.field c.text c.n
def DoV (v : Val) (c : Cmd) : Val × Rep × Int :=
  if checkV v ≠ 0 ∧ v.isNone = false then (zeroV, toldR 0, checkV v)
  else if checkC c ≠ 0 then (zeroV, toldR 0, checkC c)
  else if 18 < c.kind then (zeroV, toldR 0, 3)
  else if v.isNone = true ∧ makesC c.kind = false then (v, failR 5, 0)
  else if v.isNone = false ∧ ((kindOfC c.kind ≠ 0 ∧ kindOfC c.kind ≠ v.kind) ∨ (17 ≤ c.kind ∧ v.kind < 3)) then (v, failR 4, 0)
  else if (doV (if v.isNone = true then { v with kind := kindOfC c.kind } else v) c).2.code ≠ 0 then (v, (doV (if v.isNone = true then { v with kind := kindOfC c.kind } else v) c).2, 0)
  else if 3 ≤ (doV (if v.isNone = true then { v with kind := kindOfC c.kind } else v) c).1.kind ∧ (doV (if v.isNone = true then { v with kind := kindOfC c.kind } else v) c).1.els = 0 then (zeroV, (doV (if v.isNone = true then { v with kind := kindOfC c.kind } else v) c).2, 0)
  else ((doV (if v.isNone = true then { v with kind := kindOfC c.kind } else v) c).1, (doV (if v.isNone = true then { v with kind := kindOfC c.kind } else v) c).2, 0)
theorem zero_none : zeroV.isNone = true := by decide
theorem kind_ok {v : Val} (h : checkV v = 0) : 1 ≤ v.kind ∧ v.kind ≤ 6 := by
  unfold checkV at h
  by_cases h1 : v.kind < 1
  · rw [if_pos h1] at h; cases h
  · by_cases h2 : 6 < v.kind
    · rw [if_neg h1, if_pos h2] at h; cases h
    · omega
theorem none_kind {v : Val} (h : 1 ≤ v.kind) : v.isNone = false := by
  unfold Val.isNone
  have : (v.kind == 0) = false := by simp; omega
  simp [this]
end Go.Proofs.YtkkleopmambcnaaGreatDoor
set_option linter.unusedVariables false
set_option linter.unusedSimpArgs false
set_option maxRecDepth 100000
set_option maxHeartbeats 8000000
namespace Go.Proofs.YtkkleopmambcnaaGreatDoor
open Go Go.RowKit Go.Proofs.AE
variable {G : Nat → AV}
def DoEnd (v : Val) (q : Val × Rep) : Val × Rep × Int := if q.2.code ≠ 0 then (v, q.2, 0) else if 3 ≤ q.1.kind ∧ q.1.els = 0 then (zeroV, q.2, 0) else (q.1, q.2, 0)
theorem DoV_go {v : Val} {c : Cmd} (h : checkV v = 0) (hc : checkC c = 0) (hk : c.kind ≤ 18) (hm : ¬ ((kindOfC c.kind ≠ 0 ∧ kindOfC c.kind ≠ v.kind) ∨ (17 ≤ c.kind ∧ v.kind < 3))) : DoV v c = DoEnd v (doV v c) := by
  have hn := none_kind (kind_ok h).1
  unfold DoV DoEnd
  rw [hn]
  simp only [Bool.false_eq_true, if_false, false_and, true_and]
  rw [if_neg (by rw [h]; simp), if_neg (by rw [hc]; simp), if_neg (by omega), if_neg hm]
theorem DoV_type {v : Val} {c : Cmd} (h : checkV v = 0) (hc : checkC c = 0) (hk : c.kind ≤ 18) (hm : (kindOfC c.kind ≠ 0 ∧ kindOfC c.kind ≠ v.kind) ∨ (17 ≤ c.kind ∧ v.kind < 3)) : DoV v c = (v, failR 4, 0) := by
  have hn := none_kind (kind_ok h).1
  unfold DoV
  rw [hn]
  simp only [Bool.false_eq_true, if_false, false_and, true_and]
  rw [if_neg (by rw [h]; simp), if_neg (by rw [hc]; simp), if_neg (by omega), if_pos hm]
end Go.Proofs.YtkkleopmambcnaaGreatDoor
set_option linter.unusedVariables false
set_option linter.unusedSimpArgs false
set_option maxRecDepth 100000
set_option maxHeartbeats 8000000
namespace Go.Proofs.YtkkleopmambcnaaGreatDoor
open Go Go.RowKit Go.Proofs.AE
variable {G : Nat → AV}
end Go.Proofs.YtkkleopmambcnaaGreatDoor
set_option linter.unusedVariables false
set_option linter.unusedSimpArgs false
set_option maxRecDepth 100000
set_option maxHeartbeats 8000000
namespace Go.Proofs.YtkkleopmambcnaaGreatDoor
open Go Go.RowKit Go.Proofs.AE
theorem rising_iff {α : Type} {cmp : α → α → Int} (tr : ∀ a b c, cmp a b < 0 → cmp b c < 0 → cmp a c < 0) : ∀ {l : List α}, rising cmp l = true ↔ l.Pairwise (fun a b => cmp a b < 0)
  | [] => by simp [rising]
  | x :: l => by
    rw [List.pairwise_cons, ← rising_iff tr]
    constructor
    · intro h; exact ⟨rising_head tr h, rising_tail h⟩
    · rintro ⟨h1, h2⟩
      cases l with
      | nil => rfl
      | cons y r => simp only [rising, Bool.and_eq_true, decide_eq_true_eq]; exact ⟨h1 y (List.mem_cons_self ..), h2⟩
theorem rankOf_neg {l : List Sc} {m : ByteArray} : rankOf l m < 0 ↔ ∀ s ∈ l, s.1 ≠ m := by
  have := firstI_ge (fun s : Sc => decide (s.1 = m)) l 0
  change decide (0 ≤ rankOf l m) = _ at this
  constructor
  · intro h s hs e
    have h0 : decide (0 ≤ rankOf l m) = false := by simp; omega
    rw [h0] at this
    have h1 := List.any_eq_false.1 this.symm s hs
    simp [e] at h1
  · intro h
    have : l.any (fun s => decide (s.1 = m)) = false := by
      rw [List.any_eq_false]
      intro s hs; simpa using h s hs
    have h2 := firstI_ge (fun s : Sc => decide (s.1 = m)) l 0
    rw [this] at h2
    change decide (0 ≤ rankOf l m) = false at h2
    simp at h2; omega
theorem onceB_iff {l : List Sc} : onceB l l.length = true ↔ l.Pairwise (fun a b => a.1 ≠ b.1) := by
  rw [List.pairwise_iff_getElem]
  unfold onceB
  rw [List.all_eq_true]
  constructor
  · intro h i j hi hj hij
    have := h j (List.mem_range.2 hj)
    rw [List.getElem?_eq_getElem hj] at this
    simp only [decide_eq_true_eq] at this
    exact rankOf_neg.1 this l[i] (by rw [List.mem_take_iff_getElem]; exact ⟨i, by omega, rfl⟩)
  · intro h j hj
    have hj := List.mem_range.1 hj
    rw [List.getElem?_eq_getElem hj]
    simp only [decide_eq_true_eq]
    rw [rankOf_neg]
    intro s hs
    rw [List.mem_take_iff_getElem] at hs
    obtain ⟨i, hi, rfl⟩ := hs
    exact h i j (by omega) hj (by omega)
structure OkV (v : Val) : Prop where
  kind : 1 ≤ v.kind ∧ v.kind ≤ 6
  text : v.kind = 1 ∨ v.text = ⟨#[]⟩
  count : v.kind = 2 ∨ v.count = 0
  pairs : v.kind = 3 ∨ v.pairs = []
  items : v.kind = 4 ∨ v.kind = 5 ∨ v.items = []
  scores : v.kind = 6 ∨ v.scores = []
  els : 3 ≤ v.kind → 1 ≤ v.els ∧ v.els ≤ 20
  okT : okText v.text = true
  okI : ∀ s ∈ v.items, okText s = true
  okP : ∀ p ∈ v.pairs, okField p.1 = true ∧ okText p.2 = true
  okS : ∀ s ∈ v.scores, okText s.1 = true ∧ okCount s.2 = true
  okC : okCount v.count = true
  riseP : v.pairs.Pairwise (fun a b => bF a b < 0)
  riseS : v.scores.Pairwise (fun a b => bS a b < 0)
  riseI : v.kind = 5 → v.items.Pairwise (fun a b => cmpB a b < 0)
  once : v.scores.Pairwise (fun a b => a.1 ≠ b.1)
theorem len_zero {α : Type} {l : List α} (h : (l.length : Int) = 0) : l = [] := List.eq_nil_of_length_eq_zero (by omega)
theorem checkV_iff {v : Val} : checkV v = 0 ↔ OkV v := by
  constructor
  · intro h
    obtain ⟨k1, k2⟩ := kind_ok h
    unfold checkV at h
    rw [if_neg (by omega), if_neg (by omega)] at h
    by_cases hb : v.bad = true
    · rw [if_pos hb] at h; cases h
    rw [if_neg hb] at h
    by_cases he : 3 ≤ v.kind ∧ (v.els < 1 ∨ 20 < v.els)
    · rw [if_pos he] at h; cases h
    rw [if_neg he] at h
    by_cases h1 : (!okText v.text || v.items.any longS) = true
    · rw [if_pos h1] at h; cases h
    rw [if_neg h1] at h
    by_cases h2 : v.pairs.any badP = true
    · rw [if_pos h2] at h; cases h
    rw [if_neg h2] at h
    by_cases h3 : v.scores.any longM = true
    · rw [if_pos h3] at h; cases h
    rw [if_neg h3] at h
    by_cases h4 : (!okCount v.count || v.scores.any farN) = true
    · rw [if_pos h4] at h; cases h
    rw [if_neg h4] at h
    have h5 : v.order = true := by
      cases ho : v.order with
      | true => rfl
      | false => rw [ho] at h; simp at h
    simp only [Bool.or_eq_true, Bool.not_eq_true', not_or, Bool.not_eq_false, Bool.not_eq_true] at h1 h4 h2 h3
    unfold Val.order Val.ord at h5
    simp only [Bool.and_eq_true, Bool.or_eq_true, decide_eq_true_eq] at h5
    obtain ⟨⟨⟨r1, r2⟩, r3⟩, r4⟩ := h5
    unfold Val.bad at hb
    simp only [Bool.or_eq_true, Bool.and_eq_true, bne_iff_ne, decide_eq_true_eq, not_or, not_and, Classical.not_not] at hb
    obtain ⟨⟨b1, b2⟩, b3⟩ := hb
    refine ⟨⟨k1, k2⟩, ?_, ?_, ?_, ?_, ?_, ?_, h1.1, ?_, ?_, ?_, h4.1, (rising_iff bF_tr).1 r1, (rising_iff bS_tr).1 r2, ?_, onceB_iff.1 r4⟩
    · by_cases e : v.kind = 1
      · exact .inl e
      · exact .inr (b1 e)
    · by_cases e : v.kind = 2
      · exact .inl e
      · exact .inr (b2 e)
    · by_cases e : v.kind = 3
      · exact .inl e
      · rw [if_neg e] at b3
        refine .inr (len_zero ?_)
        split at b3 <;> split at b3 <;> omega
    · by_cases e : v.kind = 4 ∨ v.kind = 5
      · rcases e with e | e
        · exact .inl e
        · exact .inr (.inl e)
      · rw [if_neg e] at b3
        refine .inr (.inr (len_zero ?_))
        split at b3 <;> split at b3 <;> omega
    · by_cases e : v.kind = 6
      · exact .inl e
      · rw [if_neg e] at b3
        refine .inr (len_zero ?_)
        split at b3 <;> split at b3 <;> omega
    · intro hk; omega
    · intro s hs
      have := List.any_eq_false.1 h1.2 s hs
      simpa [longS] using this
    · intro p hp
      have := List.any_eq_false.1 h2 p hp
      simpa [badP] using this
    · intro s hs
      have a := List.any_eq_false.1 h3 s hs
      have b := List.any_eq_false.1 h4.2 s hs
      exact ⟨by simpa [longM] using a, by simpa [farN] using b⟩
    · intro hk
      rcases r3 with r3 | r3
      · exact absurd hk r3
      · exact (rising_iff cmpB_tr).1 r3
  · intro h
    unfold checkV
    have hk := h.kind
    rw [if_neg (by omega), if_neg (by omega)]
    have hb : ¬ v.bad = true := by
      unfold Val.bad
      simp only [Bool.or_eq_true, Bool.and_eq_true, bne_iff_ne, decide_eq_true_eq, not_or, not_and, Classical.not_not]
      refine ⟨⟨fun e => h.text.resolve_left e, fun e => h.count.resolve_left e⟩, ?_⟩
      have e1 : (if v.kind = 3 then 0 else (v.pairs.length : Int)) = 0 := by
        split
        · rfl
        · rename_i e; rw [h.pairs.resolve_left e]; rfl
      have e2 : (if v.kind = 4 ∨ v.kind = 5 then 0 else (v.items.length : Int)) = 0 := by
        split
        · rfl
        · rename_i e
          rcases h.items with x | x | x
          · exact absurd (.inl x) e
          · exact absurd (.inr x) e
          · rw [x]; rfl
      have e3 : (if v.kind = 6 then 0 else (v.scores.length : Int)) = 0 := by
        split
        · rfl
        · rename_i e; rw [h.scores.resolve_left e]; rfl
      rw [e1, e2, e3]; omega
    rw [if_neg hb]
    have he : ¬ (3 ≤ v.kind ∧ (v.els < 1 ∨ 20 < v.els)) := by
      rintro ⟨e1, e2⟩
      have := h.els e1
      omega
    rw [if_neg he]
    have h1 : (!okText v.text || v.items.any longS) = false := by
      rw [h.okT]
      simp only [Bool.not_true, Bool.false_or]
      rw [List.any_eq_false]
      intro s hs; simp [longS, h.okI s hs]
    have h2 : v.pairs.any badP = false := by
      rw [List.any_eq_false]
      intro p hp; simp [badP, h.okP p hp]
    have h3 : v.scores.any longM = false := by
      rw [List.any_eq_false]
      intro p hp; simp [longM, h.okS p hp]
    have h4 : (!okCount v.count || v.scores.any farN) = false := by
      rw [h.okC]
      simp only [Bool.not_true, Bool.false_or]
      rw [List.any_eq_false]
      intro s hs; simp [farN, h.okS s hs]
    rw [h1, h2, h3, h4]
    simp only [Bool.false_eq_true, if_false]
    have h5 : v.order = true := by
      unfold Val.order Val.ord
      simp only [Bool.and_eq_true, Bool.or_eq_true, decide_eq_true_eq]
      refine ⟨⟨⟨(rising_iff bF_tr).2 h.riseP, (rising_iff bS_tr).2 h.riseS⟩, ?_⟩, onceB_iff.2 h.once⟩
      by_cases e : v.kind = 5
      · exact .inr ((rising_iff cmpB_tr).2 (h.riseI e))
      · exact .inl e
    rw [if_pos h5]
theorem OkV.small {v : Val} (h : OkV v) : v.Small := by
  unfold Val.Small
  have := h.els
  unfold Val.els at this
  by_cases hk : 3 ≤ v.kind
  · have := this hk; omega
  · have e1 := h.pairs.resolve_left (by omega)
    have e2 := (h.items.resolve_left (by omega)).resolve_left (by omega)
    have e3 := h.scores.resolve_left (by omega)
    rw [e1, e2, e3]; simp
end Go.Proofs.YtkkleopmambcnaaGreatDoor
set_option linter.unusedVariables false
set_option linter.unusedSimpArgs false
set_option maxRecDepth 100000
set_option maxHeartbeats 8000000
namespace Go.Proofs.YtkkleopmambcnaaGreatDoor
open Go Go.RowKit Go.Proofs.AE
variable {G : Nat → AV}
end Go.Proofs.YtkkleopmambcnaaGreatDoor
set_option linter.unusedVariables false
set_option linter.unusedSimpArgs false
set_option maxRecDepth 100000
set_option maxHeartbeats 8000000
namespace Go.Proofs.YtkkleopmambcnaaGreatDoor
open Go Go.RowKit Go.Proofs.AE
variable {G : Nat → AV}
theorem DoV_zero {c : Cmd} (hc : checkC c = 0) (hk : c.kind ≤ 18) : DoV zeroV c = if makesC c.kind = true then DoEnd zeroV (doV ⟨kindOfC c.kind, ⟨#[]⟩, 0, [], [], []⟩ c) else (zeroV, failR 5, 0) := by
  unfold DoV DoEnd
  rw [zero_none]
  simp only [Bool.true_eq_false, and_false, if_false, true_and, if_true, false_and]
  rw [if_neg (by rw [hc]; simp), if_neg (by omega)]
  cases makesC c.kind with
  | true => simp only [if_true, Bool.true_eq_false, if_false]; rfl
  | false => simp
theorem checkC_kind {c : Cmd} (h : checkC c = 0) : 1 ≤ c.kind := by
  unfold checkC checkCommand at h
  by_cases h1 : c.kind < 1
  · rw [if_pos h1] at h; cases h
  · omega
end Go.Proofs.YtkkleopmambcnaaGreatDoor
set_option linter.unusedVariables false
set_option linter.unusedSimpArgs false
set_option maxRecDepth 100000
set_option maxHeartbeats 8000000
namespace Go.Proofs.YtkkleopmambcnaaGreatDoor
open Go Go.RowKit Go.Proofs.AE
theorem checkC_facts {c : Cmd} (h : checkC c = 0) : 1 ≤ c.kind ∧ c.kind ≤ 22 ∧ okText c.text = true ∧ okCount c.n = true ∧ (4 ≤ c.kind → c.kind ≤ 6 → okField c.field = true) := by
  unfold checkC checkCommand at h
  by_cases h1 : c.kind < 1
  · rw [if_pos h1] at h; cases h
  rw [if_neg h1] at h
  by_cases h2 : 22 < c.kind
  · rw [if_pos h2] at h; cases h
  rw [if_neg h2] at h
  by_cases h3 : formOk c.kind c.key c.field c.text c.n = false
  · rw [if_pos h3] at h; cases h
  rw [if_neg h3] at h
  by_cases h4 : ((c.kind != 22 && !okField c.key || (c.kind == 4 || c.kind == 5 || c.kind == 6) && !okField c.field) || !okText c.text) = true
  · rw [if_pos h4] at h; cases h
  rw [if_neg h4] at h
  by_cases h5 : okCount c.n = false
  · rw [if_pos h5] at h; cases h
  simp only [Bool.or_eq_true, Bool.and_eq_true, not_or, not_and, Bool.not_eq_true', Bool.not_eq_false, beq_iff_eq] at h4 h5
  refine ⟨by omega, by omega, h4.2, h5, fun h6 h7 => ?_⟩
  exact h4.1.2 (by omega)
structure OkB (v : Val) : Prop where
  kind : 1 ≤ v.kind ∧ v.kind ≤ 6
  text : v.kind = 1 ∨ v.text = ⟨#[]⟩
  count : v.kind = 2 ∨ v.count = 0
  pairs : v.kind = 3 ∨ v.pairs = []
  items : v.kind = 4 ∨ v.kind = 5 ∨ v.items = []
  scores : v.kind = 6 ∨ v.scores = []
  els : v.els ≤ 20
  okT : okText v.text = true
  okI : ∀ s ∈ v.items, okText s = true
  okP : ∀ p ∈ v.pairs, okField p.1 = true ∧ okText p.2 = true
  okS : ∀ s ∈ v.scores, okText s.1 = true ∧ okCount s.2 = true
  okC : okCount v.count = true
  riseP : v.pairs.Pairwise (fun a b => bF a b < 0)
  riseS : v.scores.Pairwise (fun a b => bS a b < 0)
  riseI : v.kind = 5 → v.items.Pairwise (fun a b => cmpB a b < 0)
  once : v.scores.Pairwise (fun a b => a.1 ≠ b.1)
theorem OkB.ok {v : Val} (h : OkB v) (h1 : ¬ (3 ≤ v.kind ∧ v.els = 0)) : OkV v :=
  ⟨h.kind, h.text, h.count, h.pairs, h.items, h.scores, fun hk => by have := h.els; have : 0 ≤ v.els := by (unfold Val.els; omega)
                                                                     omega, h.okT, h.okI, h.okP, h.okS, h.okC, h.riseP, h.riseS, h.riseI, h.once⟩
theorem OkV.b {v : Val} (h : OkV v) : OkB v := by
  refine ⟨h.kind, h.text, h.count, h.pairs, h.items, h.scores, ?_, h.okT, h.okI, h.okP, h.okS, h.okC, h.riseP, h.riseS, h.riseI, h.once⟩
  by_cases hk : 3 ≤ v.kind
  · exact (h.els hk).2
  · unfold Val.els
    rw [h.pairs.resolve_left (by omega), (h.items.resolve_left (by omega)).resolve_left (by omega), h.scores.resolve_left (by omega)]
    simp
theorem fresh_b {k : Int} (h1 : 1 ≤ k) (h2 : k ≤ 6) : OkB ⟨k, ⟨#[]⟩, 0, [], [], []⟩ :=
  ⟨⟨h1, h2⟩, .inr rfl, .inr rfl, .inr rfl, .inr (.inr rfl), .inr rfl, by simp [Val.els], rfl, by simp, by simp, by simp, rfl, .nil, .nil, fun _ => .nil, .nil⟩
theorem mem_ins {α : Type} {l : List α} {i : Nat} {x y : α} (h : y ∈ insAt l i x) : y = x ∨ y ∈ l := by
  unfold insAt at h
  rcases List.mem_append.1 h with h | h
  · exact .inr (List.mem_of_mem_take h)
  · rcases List.mem_cons.1 h with h | h
    · exact .inl h
    · exact .inr (List.mem_of_mem_drop h)
theorem mem_del {α : Type} {l : List α} {i : Nat} {y : α} (h : y ∈ delAt l i) : y ∈ l := by
  unfold delAt at h
  rcases List.mem_append.1 h with h | h
  · exact List.mem_of_mem_take h
  · exact List.mem_of_mem_drop h
theorem del_sub {α : Type} (l : List α) (i : Nat) : (delAt l i).Sublist l := by
  unfold delAt
  have e : l.drop (i + 1) = (l.drop i).drop 1 := by rw [List.drop_drop]
  have h : (l.take i ++ l.drop (i + 1)).Sublist (l.take i ++ l.drop i) := List.Sublist.append (List.Sublist.refl _) (by rw [e]; exact List.drop_sublist _ _)
  rwa [List.take_append_drop] at h
theorem pair_ins {α : Type} {R : α → α → Prop} {l : List α} {i : Nat} {x : α} (h : l.Pairwise R) (h1 : ∀ a ∈ l.take i, R a x) (h2 : ∀ b ∈ l.drop i, R x b) : (insAt l i x).Pairwise R := by
  unfold insAt
  have hs : (l.take i ++ l.drop i).Pairwise R := by rw [List.take_append_drop]; exact h
  rw [List.pairwise_append] at hs ⊢
  refine ⟨hs.1, List.pairwise_cons.2 ⟨h2, hs.2.1⟩, fun a ha b hb => ?_⟩
  rcases List.mem_cons.1 hb with rfl | hb
  · exact h1 a ha
  · exact hs.2.2 a ha b hb
theorem take_lt {α : Type} (lt : α → Bool) (l : List α) : ∀ a ∈ l.take (plc lt l), lt a = true := by
  intro a ha
  rw [List.mem_take_iff_getElem] at ha
  obtain ⟨j, hj, rfl⟩ := ha
  exact plc_lt lt l j _ (List.getElem?_eq_getElem (by omega)) (by omega)
theorem mem_drop_get {α : Type} {l : List α} {i : Nat} {b : α} (h : b ∈ l.drop i) : ∃ j, i ≤ j ∧ l[j]? = some b := by
  obtain ⟨j, hj⟩ := List.getElem?_of_mem h
  rw [List.getElem?_drop] at hj
  exact ⟨i + j, by omega, hj⟩
theorem set_same_map {ps : List Pr} {i : Nat} {a : Pr} (h : ps[i]? = some a) (t : ByteArray) : (ps.set i (a.1, t)).map (·.1) = ps.map (·.1) := by
  rw [List.map_set]
  apply List.ext_getElem?
  intro j
  rw [List.getElem?_set]
  split
  · rename_i e; subst e
    obtain ⟨hlt, he⟩ := List.getElem?_eq_some_iff.1 h
    simp [hlt, he]
  · rfl
theorem pw_fst {ps qs : List Pr} (h : qs.map (·.1) = ps.map (·.1)) (hp : ps.Pairwise (fun a b => bF a b < 0)) : qs.Pairwise (fun a b => bF a b < 0) := by
  have h1 : (ps.map (·.1)).Pairwise (fun a b => cmpB a b < 0) := List.pairwise_map.2 hp
  rw [← h] at h1
  exact List.pairwise_map.1 h1
theorem hashIn_some {ps : List Pr} {f : ByteArray} (h : hashIn ps f = true) : ∃ a, ps[hashAt ps f]? = some a ∧ a.1 = f := by
  unfold hashIn at_api_Pair at h
  cases hx : ps[hashAt ps f]? with
  | none => rw [hx] at h; cases h
  | some a =>
    rw [hx] at h
    exact ⟨a, rfl, cmpB_eq (by simpa using h)⟩
theorem hash_drop {ps : List Pr} {f : ByteArray} (hp : ps.Pairwise (fun a b => bF a b < 0)) (h : hashIn ps f = false) : ∀ b ∈ ps.drop (hashAt ps f), cmpB f b.1 < 0 := by
  intro b hb
  obtain ⟨j, hj, hbj⟩ := mem_drop_get hb
  have hge := hash_ge ((rising_iff bF_tr).2 hp) f j b hbj hj
  have hne : cmpB b.1 f ≠ 0 := by
    intro e
    rcases Nat.lt_or_ge (hashAt ps f) j with hlt | hge'
    ·
      have hlen := lt_of_getElem? hbj
      have ha : ps[hashAt ps f]? = some ps[hashAt ps f] := List.getElem?_eq_getElem (by omega)
      have h1 := hash_ge ((rising_iff bF_tr).2 hp) f _ _ ha (Nat.le_refl _)
      have h2 : bF ps[hashAt ps f] ps[j] < 0 := List.pairwise_iff_getElem.1 hp _ _ (by omega) hlen hlt
      rw [List.getElem?_eq_getElem hlen] at hbj
      have hb' : ps[j] = b := Option.some.inj hbj
      rw [hb'] at h2
      have h3 := cmpB_eq e
      change cmpB ps[hashAt ps f].1 b.1 < 0 at h2
      rw [h3] at h2; omega
    · have : j = hashAt ps f := by omega
      subst this
      unfold hashIn at_api_Pair at h
      rw [hbj] at h
      simp at h
      exact h e
  rw [cmpB_anti]; omega
theorem hash_ok {ps : List Pr} {c : Cmd} (hp : ps.Pairwise (fun a b => bF a b < 0)) (ho : ∀ p ∈ ps, okField p.1 = true ∧ okText p.2 = true) (hl : ps.length ≤ 20) (hf : okField c.field = true) (ht : okText c.text = true) (hc : (hashV ps c).2.code = 0) :
    (hashV ps c).1.Pairwise (fun a b => bF a b < 0) ∧ (∀ p ∈ (hashV ps c).1, okField p.1 = true ∧ okText p.2 = true) ∧ (hashV ps c).1.length ≤ 20 := by
  unfold hashV at hc ⊢
  simp only at hc ⊢
  by_cases h4 : c.kind = 4
  · rw [if_pos h4] at hc ⊢
    cases hin : hashIn ps c.field with
    | true =>
      obtain ⟨a, ha, hx⟩ := hashIn_some hin
      simp only [if_true, ha, Option.getD_some]
      refine ⟨pw_fst (set_same_map ha c.text) hp, ?_, by simpa using hl⟩
      intro p h
      rcases List.mem_or_eq_of_mem_set h with h | h
      · exact ho p h
      · rw [h]; exact ⟨(ho a (List.mem_of_getElem? ha)).1, ht⟩
    | false =>
      rw [hin] at hc
      simp only [Bool.false_eq_true, if_false] at hc ⊢
      by_cases h20 : ps.length = 20
      · rw [if_pos h20] at hc; simp [failR] at hc
      · rw [if_neg h20]
        refine ⟨pair_ins hp (fun a ha => ?_) (fun b hb => ?_), ?_, ?_⟩
        · have := take_lt (fun p : Pr => decide (cmpB p.1 c.field < 0)) ps a ha
          simpa using this
        · exact hash_drop hp hin b hb
        · intro p h
          rcases mem_ins h with rfl | h
          · exact ⟨hf, ht⟩
          · exact ho p h
        · rw [insAt_length]; omega
  · rw [if_neg h4]
    by_cases h5 : c.kind = 5
    · rw [if_pos h5]
      split <;> exact ⟨hp, ho, hl⟩
    · rw [if_neg h5]
      split
      · exact ⟨hp.sublist (del_sub _ _), fun p h => ho p (mem_del h), Nat.le_trans (delAt_length _ _) hl⟩
      · exact ⟨hp, ho, hl⟩
theorem list_ok {l : List ByteArray} {c : Cmd} (ho : ∀ s ∈ l, okText s = true) (hl : l.length ≤ 20) (ht : okText c.text = true) (hk : 7 ≤ c.kind) (hc : (listV l c).2.code = 0) : (∀ s ∈ (listV l c).1, okText s = true) ∧ (listV l c).1.length ≤ 20 := by
  unfold listV at hc ⊢
  by_cases h1 : c.kind ≤ 8 ∧ l.length = 20
  · rw [if_pos h1] at hc; simp [failR] at hc
  rw [if_neg h1]
  by_cases h7 : c.kind = 7
  · rw [if_pos h7]
    refine ⟨fun s h => ?_, ?_⟩
    · rcases List.mem_append.1 h with h | h
      · exact ho s h
      · simp at h; subst h; exact ht
    · simp; omega
  rw [if_neg h7]
  by_cases h8 : c.kind = 8
  · rw [if_pos h8]
    refine ⟨fun s h => ?_, ?_⟩
    · rcases List.mem_cons.1 h with h | h
      · rw [h]; exact ht
      · exact ho s h
    · simp; omega
  rw [if_neg h8]
  split
  · exact ⟨fun s h => ho s (List.mem_of_mem_take h), by simp; omega⟩
  · exact ⟨fun s h => ho s (List.mem_of_mem_drop h), by simp; omega⟩
theorem set_drop {l : List ByteArray} {t : ByteArray} (hp : l.Pairwise (fun a b => cmpB a b < 0)) (h : setIn l t = false) : ∀ b ∈ l.drop (setAt l t), cmpB t b < 0 := by
  intro b hb
  obtain ⟨j, hj, hbj⟩ := mem_drop_get hb
  have hge := set_ge ((rising_iff cmpB_tr).2 hp) t j b hbj hj
  rw [lessB_eq] at hge
  simp at hge
  have hne : cmpB b t ≠ 0 := by
    intro e
    have hbt := cmpB_eq e
    subst hbt
    rcases Nat.lt_or_ge (setAt l b) j with hlt | hge'
    · have hlen := lt_of_getElem? hbj
      have ha : l[setAt l b]? = some l[setAt l b] := List.getElem?_eq_getElem (by omega)
      have h1 := set_ge ((rising_iff cmpB_tr).2 hp) b _ _ ha (Nat.le_refl _)
      rw [lessB_eq] at h1
      simp at h1
      have h2 : cmpB l[setAt l b] l[j] < 0 := List.pairwise_iff_getElem.1 hp _ _ (by omega) hlen hlt
      rw [List.getElem?_eq_getElem hlen] at hbj
      have hb' : l[j] = b := Option.some.inj hbj
      rw [hb'] at h2; omega
    · have : j = setAt l b := by omega
      subst this
      unfold setIn at_string at h
      rw [hbj] at h
      simp at h
  rw [cmpB_anti]; omega
theorem set_ok {l : List ByteArray} {c : Cmd} (hp : l.Pairwise (fun a b => cmpB a b < 0)) (ho : ∀ s ∈ l, okText s = true) (hl : l.length ≤ 20) (ht : okText c.text = true) (hc : (setV l c).2.code = 0) :
    (setV l c).1.Pairwise (fun a b => cmpB a b < 0) ∧ (∀ s ∈ (setV l c).1, okText s = true) ∧ (setV l c).1.length ≤ 20 := by
  unfold setV at hc ⊢
  simp only at hc ⊢
  by_cases h4 : c.kind = 11
  · rw [if_pos h4] at hc ⊢
    cases hin : setIn l c.text with
    | true => exact ⟨hp, ho, hl⟩
    | false =>
      rw [hin] at hc
      simp only [Bool.false_eq_true, if_false] at hc ⊢
      by_cases h20 : l.length = 20
      · rw [if_pos h20] at hc; simp [failR] at hc
      · rw [if_neg h20]
        refine ⟨pair_ins hp (fun a ha => ?_) (fun b hb => ?_), ?_, ?_⟩
        · have := take_lt (fun a => lessB a c.text) l a ha
          rw [lessB_eq] at this
          simpa using this
        · exact set_drop hp hin b hb
        · intro p h
          rcases mem_ins h with rfl | h
          · exact ht
          · exact ho p h
        · rw [insAt_length]; omega
  · rw [if_neg h4]
    by_cases h5 : c.kind = 12
    · rw [if_pos h5]
      split
      · exact ⟨hp.sublist (del_sub _ _), fun p h => ho p (mem_del h), Nat.le_trans (delAt_length _ _) hl⟩
      · exact ⟨hp, ho, hl⟩
    · rw [if_neg h5]
      exact ⟨hp, ho, hl⟩
theorem firstI_at {α : Type} (p : α → Bool) : ∀ (l : List α) (i j : Nat), firstI p i l = ((i + j : Nat) : Int) → (h : j < l.length) → p l[j] = true
  | [], _, _, _, h => by simp at h
  | x :: l, i, 0, h, _ => by
    unfold firstI at h
    cases hx : p x with
    | true => simpa using hx
    | false =>
      rw [hx] at h
      simp only [Bool.false_eq_true, if_false] at h
      rcases firstI_lt p l (i + 1) with h1 | ⟨j, h1, _⟩
      · rw [h1] at h; omega
      · rw [h1] at h; omega
  | x :: l, i, j + 1, h, hj => by
    unfold firstI at h
    cases hx : p x with
    | true => rw [hx] at h; simp at h; omega
    | false =>
      rw [hx] at h
      simp only [Bool.false_eq_true, if_false] at h
      have := firstI_at p l (i + 1) j (by rw [h]; congr 1; omega) (by simpa using hj)
      simpa using this
theorem rankCut_none {l : List Sc} {m : ByteArray} (ho : l.Pairwise (fun a b => a.1 ≠ b.1)) : ∀ s ∈ rankCut l m, s.1 ≠ m := by
  unfold rankCut
  split
  · rename_i h; exact rankOf_neg.1 h
  · rename_i h
    rcases rankOf_cases l m with hn | ⟨j, hj, hlt⟩
    · omega
    · rw [hj]
      have hm : (l[j]).1 = m := by
        have := firstI_at (fun s : Sc => decide (s.1 = m)) l 0 j (by simpa [rankOf] using hj) hlt
        simpa using this
      intro s hs e
      unfold delAt at hs
      rw [Int.toNat_natCast] at hs
      rw [List.pairwise_iff_getElem] at ho
      rcases List.mem_append.1 hs with hs | hs
      · rw [List.mem_take_iff_getElem] at hs
        obtain ⟨i, hi, rfl⟩ := hs
        exact ho i j (by omega) hlt (by omega) (by rw [hm]; exact e)
      · obtain ⟨i, hi, hx⟩ := mem_drop_get hs
        have hil := lt_of_getElem? hx
        rw [List.getElem?_eq_getElem hil] at hx
        have hx := Option.some.inj hx
        exact ho j i hlt hil (by omega) (by rw [hm, hx]; exact e.symm)
theorem rankCut_sub (l : List Sc) (m : ByteArray) : (rankCut l m).Sublist l := by
  unfold rankCut
  split
  · exact List.Sublist.refl _
  · exact del_sub _ _
theorem rank_drop {l : List Sc} {m : ByteArray} {n : Int} (hp : l.Pairwise (fun a b => bS a b < 0)) (hn : ∀ s ∈ l, s.1 ≠ m) (hg : ∀ (j : Nat) a, l[j]? = some a → rankAt l m n ≤ j → 0 ≤ bS a (m, n)) : ∀ b ∈ l.drop (rankAt l m n), bS (m, n) b < 0 := by
  intro b hb
  obtain ⟨j, hj, hbj⟩ := mem_drop_get hb
  have h1 := hg j b hbj hj
  have hne := hn b (List.mem_of_getElem? hbj)
  rw [bS_lt]
  have h2 : ¬ bS b (m, n) < 0 := by omega
  rw [bS_lt] at h2
  simp only [not_or, not_and] at h2
  by_cases e : n < b.2
  · exact .inl e
  · have h5 : ¬ b.2 < n := h2.1
    have e2 : b.2 = n := by omega
    refine .inr ⟨e2.symm, ?_⟩
    have h3 : ¬ cmpB b.1 m < 0 := h2.2 e2
    show cmpB m b.1 < 0
    have h4 : cmpB b.1 m ≠ 0 := fun e => hne (cmpB_eq e)
    rw [cmpB_anti]; omega
theorem ranks_ok {l : List Sc} {c : Cmd} (hp : l.Pairwise (fun a b => bS a b < 0)) (h1 : l.Pairwise (fun a b => a.1 ≠ b.1)) (ho : ∀ s ∈ l, okText s.1 = true ∧ okCount s.2 = true) (hl : l.length ≤ 20) (ht : okText c.text = true) (hn : okCount c.n = true) (hc : (ranksV l c).2.code = 0) :
    (ranksV l c).1.Pairwise (fun a b => bS a b < 0) ∧ (ranksV l c).1.Pairwise (fun a b => a.1 ≠ b.1) ∧ (∀ s ∈ (ranksV l c).1, okText s.1 = true ∧ okCount s.2 = true) ∧ (ranksV l c).1.length ≤ 20 := by
  have cs := rankCut_sub l c.text
  have cl := rankCut_len l c.text
  have co : ∀ s ∈ rankCut l c.text, okText s.1 = true ∧ okCount s.2 = true := fun s h => ho s (cs.subset h)
  unfold ranksV at hc ⊢
  simp only at hc ⊢
  by_cases h16 : c.kind = 16
  · rw [if_pos h16]; exact ⟨hp, h1, ho, hl⟩
  rw [if_neg h16] at hc ⊢
  by_cases h15 : c.kind = 15
  · rw [if_pos h15]; exact ⟨hp.sublist cs, h1.sublist cs, co, Nat.le_trans cl hl⟩
  rw [if_neg h15] at hc ⊢
  by_cases hf : rankOf l c.text < 0 ∧ l.length = 20
  · rw [if_pos hf] at hc; simp [failR] at hc
  rw [if_neg hf]
  have hnone := rankCut_none (m := c.text) h1
  refine ⟨pair_ins (hp.sublist cs) (fun a ha => ?_) (rank_drop (hp.sublist cs) hnone (rank_ge ((rising_iff bS_tr).2 hp) c.text c.n)), pair_ins (h1.sublist cs) (fun a ha => hnone a (List.mem_of_mem_take ha)) (fun b hb => (hnone b (List.mem_of_mem_drop hb)).symm), ?_, ?_⟩
  · have := take_lt (fun a : Sc => decide (bS a (c.text, c.n) < 0)) (rankCut l c.text) a ha
    simpa using this
  · intro s h
    rcases mem_ins h with rfl | h
    · exact ⟨ht, hn⟩
    · exact co s h
  · rw [insAt_length]
    unfold rankCut at cl ⊢
    split
    · rename_i h
      have : ¬ l.length = 20 := fun e => hf ⟨h, e⟩
      omega
    · rename_i h
      rcases rankOf_cases l c.text with hn | ⟨j, hj, hlt⟩
      · omega
      · rw [hj, Int.toNat_natCast]; unfold delAt; simp; omega
def Vk (v : Val) : Prop := OkV v ∨ v = zeroV
theorem Vk.small {v : Val} (h : Vk v) : v.Small := by
  rcases h with h | h
  · exact h.small
  · rw [h]; exact ⟨Nat.zero_le _, Nat.zero_le _, Nat.zero_le _⟩
theorem typed_kind {k κ : Int} (h : kindOfC k = κ) (hk : 4 ≤ k) (h2 : k ≤ 16) : (κ = 3 ∧ k ≤ 6) ∨ (κ = 4 ∧ 7 ≤ k ∧ k ≤ 10) ∨ (κ = 5 ∧ 11 ≤ k ∧ k ≤ 13) ∨ (κ = 6 ∧ 14 ≤ k) := by
  unfold kindOfC at h
  repeat' split at h
  all_goals omega
theorem doV_ok {v : Val} {c : Cmd} (h : OkB v) (hc : checkC c = 0) (hk : c.kind ≤ 16) (hf : c.kind = 1 ∨ kindOfC c.kind = v.kind) (h0 : (doV v c).2.code = 0) : OkB (doV v c).1 := by
  obtain ⟨c1, c2, c3, c4, c5⟩ := checkC_facts hc
  unfold doV at h0 ⊢
  by_cases k1 : c.kind = 1
  · rw [if_pos k1]
    exact ⟨⟨(by show (1 : Int) ≤ 1; omega), (by show (1 : Int) ≤ 6; omega)⟩, .inl rfl, .inr rfl, .inr rfl, .inr (.inr rfl), .inr rfl, by simp [Val.els], c3, by simp, by simp, by simp, rfl, .nil, .nil, fun _ => .nil, .nil⟩
  have hf := hf.resolve_left k1
  rw [if_neg k1] at h0 ⊢
  by_cases k2 : c.kind = 2
  · rw [if_pos k2]; exact h
  rw [if_neg k2] at h0 ⊢
  by_cases k3 : c.kind = 3
  · rw [if_pos k3] at h0 ⊢
    have hv : v.kind = 2 := by rw [k3] at hf; exact hf.symm
    split
    · rename_i hcn
      exact ⟨h.kind, h.text, .inl hv, h.pairs, h.items, h.scores, h.els, h.okT, h.okI, h.okP, h.okS, hcn, h.riseP, h.riseS, h.riseI, h.once⟩
    · exact h
  rw [if_neg k3] at h0 ⊢
  rw [if_neg (by omega), if_neg (by omega)] at h0 ⊢
  have hel := h.els
  unfold Val.els at hel
  rcases typed_kind hf (by omega) hk with ⟨e, b1⟩ | ⟨e, b1, b2⟩ | ⟨e, b1, b2⟩ | ⟨e, b1⟩
  · rw [if_pos e] at h0 ⊢
    have ei := (h.items.resolve_left (by omega)).resolve_left (by omega)
    have es := h.scores.resolve_left (by omega)
    obtain ⟨q1, q2, q3⟩ := hash_ok h.riseP h.okP (by omega) (c5 (by omega) b1) c3 h0
    refine ⟨h.kind, h.text, h.count, .inl e, h.items, h.scores, ?_, h.okT, h.okI, q2, h.okS, h.okC, q1, h.riseS, h.riseI, h.once⟩
    simp only [Val.els, ei, es, List.length_nil]; omega
  · rw [if_neg (by omega), if_pos e] at h0 ⊢
    have ep := h.pairs.resolve_left (by omega)
    have es := h.scores.resolve_left (by omega)
    obtain ⟨q1, q2⟩ := list_ok h.okI (by omega) c3 b1 h0
    refine ⟨h.kind, h.text, h.count, h.pairs, .inl e, h.scores, ?_, h.okT, q1, h.okP, h.okS, h.okC, h.riseP, h.riseS, fun x => ?_, h.once⟩
    · simp only [Val.els, ep, es, List.length_nil]; omega
    · simp only at x; omega
  · rw [if_neg (by omega), if_neg (by omega), if_pos e] at h0 ⊢
    have ep := h.pairs.resolve_left (by omega)
    have es := h.scores.resolve_left (by omega)
    obtain ⟨q1, q2, q3⟩ := set_ok (h.riseI e) h.okI (by omega) c3 h0
    refine ⟨h.kind, h.text, h.count, h.pairs, .inr (.inl e), h.scores, ?_, h.okT, q2, h.okP, h.okS, h.okC, h.riseP, h.riseS, fun _ => q1, h.once⟩
    simp only [Val.els, ep, es, List.length_nil]; omega
  · rw [if_neg (by omega), if_neg (by omega), if_neg (by omega)] at h0 ⊢
    have ep := h.pairs.resolve_left (by omega)
    have ei := (h.items.resolve_left (by omega)).resolve_left (by omega)
    obtain ⟨q1, q2, q3, q4⟩ := ranks_ok h.riseS h.once h.okS (by omega) c3 c4 h0
    refine ⟨h.kind, h.text, h.count, h.pairs, h.items, .inl e, ?_, h.okT, h.okI, h.okP, q3, h.okC, h.riseP, q1, h.riseI, q2⟩
    simp only [Val.els, ep, ei, List.length_nil]; omega
end Go.Proofs.YtkkleopmambcnaaGreatDoor
set_option linter.unusedVariables false
set_option linter.unusedSimpArgs false
namespace Go.Proofs.AE
open Go Go.RowKit
section
variable {P : Program} {W : World}
theorem below_of {ok ok' : Nat → Prop} {μ' : List MB} {hp' : Hp} {w' : World} (h : Step W ok [] [] w' ok' μ' hp') : Below W.heap.size W w' :=
  ⟨h.os, h.tape, h.output, h.size, fun k hk => h.frame k hk not_own_nil⟩
theorem PCall.run {G : Nat → AV} {ok : Nat → Prop} {f : Nat} {args : List AV} {xs : List Value} {b : Bool} (h : PCall P G f args (.one (.v (.lit (.bool b))))) (hok : ∀ b, ok b → b < W.heap.size) (hg : GRel W ok G) (hargs : AVRels W ok [] args xs) :
    Calls P f xs.toArray W fun e W' => e = .returned (.bool b) ∧ Below W.heap.size W W' := by
  refine (h W ok [] xs (hr_nil hok) hg hargs).mono ?_
  rintro e w' ⟨x, r, hp', ok', μ', rfl, hs, hr, rfl, rfl⟩
  have := lit_rel hr
  subst this
  exact ⟨rfl, below_of hs⟩
end
end Go.Proofs.AE
set_option linter.unusedVariables false
set_option linter.unusedSimpArgs false
namespace Go.Proofs.AE
open Go Go.RowKit
def WT (P : Program) : Nat → TypeId → List V → Prop
  | 0, _, _ => False
  | n + 1, t, vs => match tiOf P t with
    | none => False
    | some i => match i.sh with
      | .bool => ∃ b, vs = [.lit (.bool b)]
      | .int k => ∃ x, vs = [.lit (.int k x)] ∧ (Lit.int k x).wf = true
      | .string => ∃ s : ByteArray, vs = [.lit (.string s)] ∧ s.size ≤ maxLen
      | .struct fs => vs.length = i.size ∧ ∀ f ∈ fs, ∃ j, tiOf P f.1 = some j ∧ WT P n f.1 ((vs.drop f.2).take j.size)
      | .slice e => ∃ rows, vs = [.sl rows] ∧ rows.length ≤ maxLen ∧ ∀ r ∈ rows, WT P n e r
      | _ => False
def flatT (P : Program) : Nat → TypeId → Bool
  | 0, _ => false
  | n + 1, t => match tiOf P t with
    | none => false
    | some i => match i.sh with
      | .bool | .int _ | .string => true
      | .struct fs => fs.all (fun f => flatT P n f.1)
      | _ => false
def deepT (P : Program) (D : Bool) : Nat → TypeId → Bool
  | 0, _ => false
  | n + 1, t => match tiOf P t with
    | none => false
    | some i => match i.sh with
      | .bool | .int _ | .string => true
      | .struct fs => fs.all (fun f => deepT P D n f.1)
      | .slice e => D && (decide (0 < P.cellsOf e) && deepT P D n e)
      | _ => false
theorem flat_deep {P : Program} : ∀ (n : Nat) (t : TypeId), flatT P n t = true → deepT P false n t = true
  | 0, _, h => by cases h
  | n + 1, t, h => by
    simp only [flatT] at h
    simp only [deepT]
    split at h
    · cases h
    · split at h
      · rename_i hsh; rw [hsh]
      · rename_i hsh; rw [hsh]
      · rename_i hsh; rw [hsh]
      · rename_i fs hsh
        rw [hsh]
        simp only [List.all_eq_true] at h ⊢
        exact fun f hf => flat_deep n f.1 (h f hf)
      · cases h
section
variable {H : Type} {enc : TypeId × Value → H} {P : Program} {w : World} {ok : Nat → Prop} {base : Nat} {spare : Nat → Bool} {held : Bool} {T : TypeId → Prop}
theorem cellsOf_ti {t : TypeId} {i : TI} (h : TIs P t i) : P.cellsOf t = i.size := by
  obtain ⟨j, h1, h2, _⟩ := h.info
  simp [Program.cellsOf, h1, h2]
theorem und_ti {t : TypeId} {i : TI} (h : TIs P t i) : ∃ d, P.underlying t = some d ∧ shOf P d = some i.sh := h.und
theorem flatten_take_drop {α : Type} : ∀ (L : List (List α)) (j : Nat) (l : List α), L[j]? = some l → (L.flatten.drop ((L.take j).map List.length).sum).take l.length = l
  | [], j, l, h => by simp at h
  | x :: L, 0, l, h => by simp at h; subst h; simp
  | x :: L, j + 1, l, h => by
    simp only [List.getElem?_cons_succ] at h
    have := flatten_take_drop L j l h
    simp only [List.take_succ_cons, List.map_cons, List.sum_cons, List.flatten_cons]
    rw [List.drop_append]
    have h1 : (x.drop (x.length + ((L.take j).map List.length).sum)) = [] := List.drop_eq_nil_of_le (by omega)
    rw [h1, List.nil_append, show x.length + ((L.take j).map List.length).sum - x.length = ((L.take j).map List.length).sum by omega]
    exact this
theorem all2_flatten {α β : Type} {R : α → β → Prop} : ∀ {L : List (List α)} {M : List (List β)}, All2 (All2 R) L M → All2 R L.flatten M.flatten
  | _, _, .nil => .nil
  | _, _, .cons h t => h.append (all2_flatten t)
theorem pieces {α : Type} : ∀ (ns : List Nat) (cs : List α), cs.length = ns.sum → ((List.range ns.length).map fun j => (cs.drop (ns.take j).sum).take (ns.getD j 0)).flatten = cs
  | [], cs, h => by simp at h; simp [h]
  | n :: ns, cs, h => by
    rw [List.length_cons, List.range_succ_eq_map, List.map_cons, List.flatten_cons, List.map_map]
    have ih := pieces ns (cs.drop n) (by simp at h ⊢; omega)
    have he : ((fun j => (cs.drop ((n :: ns).take j).sum).take ((n :: ns).getD j 0)) ∘ Nat.succ) = fun j => ((cs.drop n).drop (ns.take j).sum).take (ns.getD j 0) := by
      funext j; simp [List.drop_drop]
    rw [he, ih]
    simp
theorem read_rows {e : TypeId} (hpos : 0 < P.cellsOf e) (hok : ∀ b, b < w.heap.size → ok b) {a : Addr} {len cap : Nat} (hle : len ≤ cap) (hcap : cap ≤ maxLen) {Q : List V → Prop}
    (hch : ∀ i, i < len → ∃ vs cs', w.cells? base (a.add (i * P.cellsOf e)) (P.cellsOf e) = some cs' ∧ All2 (VRel w ok) vs cs' ∧ Q vs) :
    ∃ rows, VRel w ok (.sl rows) (.slice (some a) len cap) ∧ rows.length = len ∧ ∀ r ∈ rows, Q r := by
  rcases Nat.eq_zero_or_pos len with h0 | h0
  · subst h0
    exact ⟨[], .emp a cap hcap, rfl, fun r h => by cases h⟩
  · have hfirst : ∃ y, w.cell? a = some y := by
      obtain ⟨vs, cs', c1, _, _⟩ := hch 0 h0
      obtain ⟨_, hl, hc'⟩ := World.cells?_some c1
      have := hc' 0 hpos
      have hx : w.cell? a = cs'[0]? := by simpa [Addr.add] using this
      exact ⟨cs'[0], by rw [hx, List.getElem?_eq_getElem (by omega)]⟩
    obtain ⟨y0, hy0⟩ := hfirst
    have hspot := World.cell?_spot hy0
    have hblk : a.block < w.heap.size := by
      unfold World.cell? at hy0
      split at hy0
      · rename_i hb2; exact (Array.getElem?_eq_some_iff.1 hb2).1
      · cases hy0
    obtain ⟨ab, ao, asp⟩ := a
    simp only at hspot hblk
    subst hspot
    have hch' : ∀ i, ∃ vs cs', i < len → w.cells? base ((⟨ab, ao, none⟩ : Addr).add (i * P.cellsOf e)) (P.cellsOf e) = some cs' ∧ All2 (VRel w ok) vs cs' ∧ Q vs := by
      intro i
      by_cases hi : i < len
      · obtain ⟨vs, cs', h⟩ := hch i hi
        exact ⟨vs, cs', fun _ => h⟩
      · exact ⟨[], [], fun h => (hi h).elim⟩
    let R := fun i => Classical.choose (hch' i)
    have hR : ∀ i, ∃ cs', i < len → w.cells? base ((⟨ab, ao, none⟩ : Addr).add (i * P.cellsOf e)) (P.cellsOf e) = some cs' ∧ All2 (VRel w ok) (R i) cs' ∧ Q (R i) := fun i => Classical.choose_spec (hch' i)
    have hlen : ((List.range len).map R).length = len := by simp
    have hget : ∀ (i : Nat) row, ((List.range len).map R)[i]? = some row → i < len ∧ row = R i := by
      intro i row h
      have hi : i < len := by have := lt_of_getElem? h; simpa using this
      rw [List.getElem?_map, List.getElem?_range hi] at h
      exact ⟨hi, (Option.some.inj h).symm⟩
    have hcell : ∀ (i : Nat) row (j : Nat) v, ((List.range len).map R)[i]? = some row → row[j]? = some v → ∃ y, w.cell? ⟨ab, ao + (i * row.length + j), none⟩ = some y ∧ VRel w ok v y := by
      intro i row j v h1 h2
      obtain ⟨hi, rfl⟩ := hget i row h1
      obtain ⟨cs', hcs⟩ := hR i
      obtain ⟨c1, c2, _⟩ := hcs hi
      obtain ⟨_, hl, hc'⟩ := World.cells?_some c1
      obtain ⟨y, hy, hr⟩ := c2.get h2
      have hj : j < P.cellsOf e := by rw [← hl, ← c2.length]; exact lt_of_getElem? h2
      refine ⟨y, ?_, hr⟩
      have := hc' j hj
      rw [hy] at this
      have hrow : (R i).length = P.cellsOf e := by rw [c2.length, hl]
      rw [hrow, ← this, Addr.add_lit, Addr.add_lit, Nat.add_assoc]
    refine ⟨(List.range len).map R, ?_, hlen, fun r hr => ?_⟩
    · have hsl := VRel.sl (w := w) (ok := ok) ((List.range len).map R) ab ao cap
        (fun i j => match ((List.range len).map R)[i]? with | some row => (w.cell? ⟨ab, ao + (i * row.length + j), none⟩).getD undef | none => undef) (fun _ => hok _ hblk) (by rw [hlen]; exact hle) hcap ?_ ?_
      · rw [hlen] at hsl; exact hsl
      · intro i row j v h1 h2
        obtain ⟨y, hy, _⟩ := hcell i row j v h1 h2
        simp [h1, hy]
      · intro i row j v h1 h2
        obtain ⟨y, hy, hr⟩ := hcell i row j v h1 h2
        simp only [h1, hy, Option.getD_some]
        exact hr
    · obtain ⟨i, hi, rfl⟩ := List.mem_map.1 hr
      obtain ⟨cs', hcs⟩ := hR i
      exact (hcs (List.mem_range.1 hi)).2.2
theorem read_deep (K : Kids P T) {D : Bool} (hD : D = true → ∀ b, b < w.heap.size → ok b) : ∀ (n : Nat) (t : TypeId) (fuel : Nat) (cs : List Value) (x : DataW H × List MemPlace), T t → deepT P D n t = true → DataW.trod enc P w base spare held fuel t cs = some x →
    ∃ vs, All2 (VRel w ok) vs cs ∧ WT P n t vs := by
  intro n
  induction n with
  | zero => intro t fuel cs x _ h; cases h
  | succ n ih =>
    intro t fuel cs x hT hf h
    simp only [deepT] at hf
    simp only [WT]
    split at hf
    · cases hf
    · rename_i i hi
      have hs := tiOf_spec hi
      obtain ⟨d, hu, hd⟩ := und_ti hs
      split at hf
      · rename_i hsh
        rw [hsh] at hd
        have : P.underlying t = some .bool := by
          rw [hu]; unfold shOf at hd; split at hd <;> first | rfl | (cases hd; done) | (split at hd <;> cases hd; done)
        obtain ⟨b, rfl, _⟩ := DataW.trod_bool this h
        exact ⟨[.lit (.bool b)], .cons (.lit _ rfl) .nil, b, rfl⟩
      · rename_i k hsh
        rw [hsh] at hd
        have : P.underlying t = some (.int k) := by
          rw [hu]; unfold shOf at hd; split at hd <;> first | (cases hd; rfl) | (cases hd; done) | (split at hd <;> cases hd; done)
        obtain ⟨b, rfl, _, hw⟩ := DataW.trod_int this h
        exact ⟨[.lit (.int k b)], .cons (.lit _ rfl) .nil, b, rfl, hw⟩
      · rename_i hsh
        rw [hsh] at hd
        have : P.underlying t = some .string := by
          rw [hu]; unfold shOf at hd; split at hd <;> first | rfl | (cases hd; done) | (split at hd <;> cases hd; done)
        obtain ⟨b, rfl, _, hw⟩ := DataW.trod_string this h
        exact ⟨[.lit (.string b)], .cons (.lit _ rfl) .nil, b, rfl, hw⟩
      · rename_i fs hsh
        rw [hsh] at hd
        obtain ⟨gs, hgu, hgs⟩ : ∃ gs : Array Field, P.underlying t = some (.struct gs) ∧ fs = gs.toList.map fun f => (f.type, f.offset) := by
          unfold shOf at hd
          split at hd <;> first | (cases hd; done) | skip
          rename_i gs
          split at hd
          · cases hd; exact ⟨gs, hu, rfl⟩
          · cases hd
        subst hgs
        obtain ⟨k1, k2, k3⟩ := K.struct hT hgu
        obtain ⟨xs, m, rfl, _, hlen, hxl, hx⟩ := DataW.trod_struct hgu h
        have hfield : ∀ (j : Nat) (f : Field), gs.toList[j]? = some f → ∃ vs, All2 (VRel w ok) vs ((cs.drop f.offset).take (P.cellsOf f.type)) ∧ WT P n f.type vs ∧ ∃ q, tiOf P f.type = some q ∧ q.size = P.cellsOf f.type := by
          intro j f hj
          have hfa : gs[j]? = some f := by simpa using hj
          have hmem : f ∈ gs.toList := List.mem_of_getElem? hj
          have hfl : deepT P D n f.type = true := by
            rw [List.all_eq_true] at hf
            exact hf (f.type, f.offset) (List.mem_map.2 ⟨f, hmem, rfl⟩)
          have hxj := hx j f hfa
          have hjx : j < xs.length := by rw [hxl]; exact (Array.getElem?_eq_some_iff.1 hfa).1
          rw [List.getElem?_eq_getElem hjx] at hxj
          obtain ⟨vs, h1, h2⟩ := ih f.type m _ _ (k1 f hmem) hfl hxj
          refine ⟨vs, h1, h2, ?_⟩
          cases n with
          | zero => cases hfl
          | succ n =>
            simp only [deepT] at hfl
            split at hfl
            · cases hfl
            · rename_i q hq
              exact ⟨q, hq, (cellsOf_ti (tiOf_spec hq)).symm⟩
        let ns := gs.toList.map fun f => P.cellsOf f.type
        have hns : cs.length = ns.sum := by rw [hlen]; exact k2
        have hget : ∀ j : Nat, j < gs.toList.length → ∃ f, gs.toList[j]? = some f := fun j hj => ⟨_, List.getElem?_eq_getElem hj⟩
        have hch : ∀ j : Nat, ∃ vs, ∀ f : Field, gs.toList[j]? = some f → All2 (VRel w ok) vs ((cs.drop f.offset).take (P.cellsOf f.type)) ∧ WT P n f.type vs ∧ ∃ q, tiOf P f.type = some q ∧ q.size = P.cellsOf f.type := by
          intro j
          cases hj : gs.toList[j]? with
          | none => exact ⟨[], fun f h => by cases h⟩
          | some f =>
            obtain ⟨vs, h⟩ := hfield j f hj
            exact ⟨vs, fun f' h' => by cases h'; exact h⟩
        let V := fun j => Classical.choose (hch j)
        have hV : ∀ (j : Nat) (f : Field), gs.toList[j]? = some f → All2 (VRel w ok) (V j) ((cs.drop f.offset).take (P.cellsOf f.type)) ∧ WT P n f.type (V j) ∧ ∃ q, tiOf P f.type = some q ∧ q.size = P.cellsOf f.type := fun j => Classical.choose_spec (hch j)
        let L := (List.range ns.length).map V
        let M := (List.range ns.length).map fun j => (cs.drop (ns.take j).sum).take (ns.getD j 0)
        have hnl : ns.length = gs.toList.length := by simp [ns]
        have hML : All2 (All2 (VRel w ok)) L M := by
          refine All2.of_get (by simp [L, M]) ?_
          intro j a b ha hb
          simp only [L, M, List.getElem?_map] at ha hb
          have hjlt : j < ns.length := by
            rcases Nat.lt_or_ge j ns.length with h | h
            · exact h
            · rw [List.getElem?_eq_none (by simpa using h)] at ha; cases ha
          rw [List.getElem?_range hjlt] at ha hb
          simp only [Option.map_some, Option.some.injEq] at ha hb
          subst ha; subst hb
          obtain ⟨f, hj⟩ := hget j (by omega)
          have e1 : (ns.take j).sum = f.offset := by rw [k3 j f hj]; simp [ns, List.map_take]
          have e2 : ns.getD j 0 = P.cellsOf f.type := by simp [ns, List.getD_eq_getElem?_getD, hj]
          rw [e1, e2]
          exact (hV j f hj).1
        have hMf : M.flatten = cs := pieces ns cs hns
        have hA := all2_flatten hML
        rw [hMf] at hA
        refine ⟨L.flatten, hA, by rw [hA.length, hlen, cellsOf_ti hs], ?_⟩
        intro f hf'
        obtain ⟨g, hg, rfl⟩ := List.mem_map.1 hf'
        obtain ⟨j, hj⟩ := List.getElem?_of_mem hg
        obtain ⟨v1, v2, q, hq, hqs⟩ := hV j g hj
        refine ⟨q, hq, ?_⟩
        have hjlt : j < ns.length := by rw [hnl]; exact lt_of_getElem? hj
        have hLj : L[j]? = some (V j) := by simp [L, hjlt]
        have hlens : ∀ i : Nat, i < ns.length → (V i).length = ns.getD i 0 := by
          intro i hi
          obtain ⟨f, hif⟩ := hget i (by omega)
          have e2 : ns.getD i 0 = P.cellsOf f.type := by simp [ns, List.getD_eq_getElem?_getD, hif]
          rw [(hV i f hif).1.length, e2, List.length_take, List.length_drop]
          have hk := k3 i f hif
          have : ((gs.toList.take i).map fun f => P.cellsOf f.type).sum + P.cellsOf f.type ≤ ns.sum := by
            have h3 : ns = (gs.toList.take i).map (fun f => P.cellsOf f.type) ++ (gs.toList.drop i).map (fun f => P.cellsOf f.type) := by
              rw [← List.map_append, List.take_append_drop]
            rw [h3, List.sum_append]
            have h4 : gs.toList.drop i = f :: gs.toList.drop (i + 1) := by
              have := lt_of_getElem? hif
              rw [List.drop_eq_getElem_cons this]
              rw [List.getElem?_eq_getElem this] at hif
              rw [Option.some.inj hif]
            rw [h4, List.map_cons, List.sum_cons]
            omega
          rw [hns]
          omega
        have hoff : ((L.take j).map List.length).sum = g.offset := by
          rw [k3 j g hj]
          congr 1
          apply List.ext_getElem?
          intro i
          by_cases hi : i < j
          · have hin : i < ns.length := by omega
            obtain ⟨f, hif⟩ := hget i (by omega)
            have e2 : ns.getD i 0 = P.cellsOf f.type := by simp [ns, List.getD_eq_getElem?_getD, hif]
            have hLi : (L.take j)[i]? = some (V i) := by rw [List.getElem?_take_of_lt hi]; simp [L, hin]
            rw [List.getElem?_map, hLi, Option.map_some, hlens i hin, e2, List.getElem?_map, List.getElem?_take_of_lt hi, hif]
            rfl
          · simp [List.getElem?_take, hi]
        have htd := flatten_take_drop L j (V j) hLj
        rw [hoff] at htd
        have : q.size = (V j).length := by
          rw [hqs, hlens j hjlt]; simp [ns, List.getD_eq_getElem?_getD, hj]
        rw [this, htd]
        exact v2
      · rename_i e hsh
        rw [hsh] at hd
        have hu' : P.underlying t = some (.slice e) := by
          rw [hu]; unfold shOf at hd; split at hd <;> first | (cases hd; rfl) | (cases hd; done) | (split at hd <;> cases hd; done)
        simp only [Bool.and_eq_true, decide_eq_true_eq] at hf
        obtain ⟨hD', hpos, hfe⟩ := hf
        rcases Go.Deep.open_slice hu' h with ⟨rfl, _⟩ | ⟨a, len, cap, m, n', DD, Pl, rfl, _, hle, hcap, hm, _, hel⟩
        · exact ⟨[.sl []], .cons .nil .nil, [], rfl, by simp [maxLen], fun r h => by cases h⟩
        · have hlm : len ≤ m := by rw [hm]; split <;> omega
          obtain ⟨rows, h1, h2, h3⟩ := read_rows (w := w) (ok := ok) (base := base) (Q := fun r => WT P n e r) hpos (hD hD') hle hcap (a := a) (fun i hi => by
            obtain ⟨cs', h2, h3⟩ := hel i (by omega)
            obtain ⟨vs, h4, h5⟩ := ih e n' _ _ (K.slice hT hu') hfe h3
            exact ⟨vs, cs', h2, h4, h5⟩)
          exact ⟨[.sl rows], .cons h1 .nil, rows, rfl, by rw [h2]; omega, h3⟩
      · cases hf
theorem read_sliceD (K : Kids P T) {D : Bool} {n : Nat} {t e : TypeId} {v : Value} {d : DataW H} {ps : List MemPlace} {r : Reach} {b0 : Nat} (ht : P.underlying t = some (.slice e)) (hT : T t) (hf : deepT P D n e = true) (hpos : 0 < P.cellsOf e) (hval : Value.okWide P w r b0 t v)
    (h : DataW.Trod enc P w base spare held t v d ps) (μ : List MB) : ∃ rows, AVRel w (fun b => b < w.heap.size) μ (.one (.v (.sl rows))) v ∧ rows.length ≤ maxLen ∧ ∀ r ∈ rows, WT P n e r := by
  have hc : Cell.ok P w r b0 t v := by
    unfold Value.okWide at hval
    rw [ht] at hval
    simp only [Cell.okWide, ht] at hval
    exact hval
  have hv : v = .slice none 0 0 ∨ ∃ a len cap, v = .slice (some a) len cap := by
    unfold Cell.ok at hc
    rw [ht] at hc
    split at hc <;> first | (exact hc.elim) | skip
    all_goals (rename_i h1; first | (cases h1; done) | skip)
    · exact .inl rfl
    · exact .inr ⟨_, _, _, rfl⟩
  obtain ⟨fuel, hfu⟩ := h
  rcases hv with rfl | ⟨a, len, cap, rfl⟩
  · exact ⟨[], .one (.v .nil), by simp [maxLen], fun r h => by cases h⟩
  · rcases Go.Deep.open_slice ht hfu with ⟨h1, _⟩ | ⟨a', len', cap', m, n', DD, Pl, h1, hb, hle, hcap, hm, _, hel⟩
    · simp [Value.cells] at h1
    · simp only [Value.cells] at h1
      obtain ⟨rfl, rfl, rfl⟩ : a = a' ∧ len = len' ∧ cap = cap' := by simpa using h1
      have hlm : len ≤ m := by rw [hm]; split <;> omega
      obtain ⟨rows, h1, h2, h3⟩ := read_rows (w := w) (ok := fun b => b < w.heap.size) (base := base) (Q := fun r => WT P n e r) hpos (fun _ h => h) hle hcap (a := a) (fun i hi => by
        obtain ⟨cs', h2, h3⟩ := hel i (by omega)
        obtain ⟨vs, h4, h5⟩ := read_deep (ok := fun b => b < w.heap.size) K (D := D) (fun _ _ h => h) n e n' _ _ (K.slice hT ht) hf h3
        exact ⟨vs, cs', h2, h4, h5⟩)
      exact ⟨rows, .one (.v h1), by rw [h2]; omega, h3⟩
theorem read_slice (K : Kids P T) {n : Nat} {t e : TypeId} {v : Value} {d : DataW H} {ps : List MemPlace} {r : Reach} {b0 : Nat} (ht : P.underlying t = some (.slice e)) (hT : T t) (hf : flatT P n e = true) (hpos : 0 < P.cellsOf e) (hval : Value.okWide P w r b0 t v)
    (h : DataW.Trod enc P w base spare held t v d ps) (μ : List MB) : ∃ rows, AVRel w (fun b => b < w.heap.size) μ (.one (.v (.sl rows))) v ∧ rows.length ≤ maxLen ∧ ∀ r ∈ rows, WT P n e r :=
  read_sliceD K (D := false) ht hT (flat_deep n e hf) hpos hval h μ
theorem below_cell {w w' : World} {B : Nat} (hb : Below B w w') {a : Addr} (h : a.block < B) : w'.cell? a = w.cell? a := by
  unfold World.cell?
  rw [hb.block a.block h]
theorem good_lt {p : MemPlace} (h : Good w p) : p.block < w.heap.size := by
  cases p with
  | cell b off =>
    obtain ⟨v, h, _⟩ := h
    unfold World.cell? at h
    split at h
    · rename_i hb; exact (Array.getElem?_eq_some_iff.1 hb).1
    · cases h
  | map b =>
    obtain ⟨es, c, h⟩ := h
    exact (Array.getElem?_eq_some_iff.1 h).1
theorem trodAll_later (K : Kids P T) (hsz : ∀ {t e : TypeId}, T t → P.underlying t = some (.slice e) → 0 < P.cellsOf e) {w' : World} (hb : Below w.heap.size w w') :
    ∀ {ts : List TypeId} {vs : List Value} {ds : List (DataW H)} {ps : List MemPlace}, (∀ t ∈ ts, T t) → DataW.TrodAll enc P w base (fun _ => true) true ts vs ds ps → DataW.TrodAll enc P w' base (fun b => decide (b < w.heap.size)) true ts vs ds ps
  | [], [], [], _, _, h => h
  | t :: ts, v :: vs, d :: ds, _, hT, ⟨p, q, ⟨fuel, h1⟩, h2, h3⟩ => by
    have hg := DataW.trod_good K (fun h => by cases h) fuel t _ _ (hT t (List.mem_cons_self ..)) h1
    refine ⟨p, q, ⟨fuel, DataW.trod_stays K hsz (fun h => by cases h) (hT t (List.mem_cons_self ..)) h1 (fun x hx => ?_) fun x hx => ?_⟩, trodAll_later K hsz hb (fun t ht => hT t (List.mem_cons_of_mem _ ht)) h2, h3⟩
    · have := good_lt (hg x hx)
      cases x with
      | cell b off => exact below_cell hb this
      | map b => exact hb.block b this
    · simpa using good_lt (hg x hx)
  | [], _ :: _, _, _, _, h => by simp [DataW.TrodAll] at h
  | _ :: _, [], _, _, _, h => by simp [DataW.TrodAll] at h
  | [], [], _ :: _, _, _, h => by simp [DataW.TrodAll] at h
  | _ :: _, _ :: _, [], _, _, h => by simp [DataW.TrodAll] at h
def slicesOk (P : Program) : Bool := (List.range P.types.size).all fun t => match P.underlying t with | some (.slice e) => decide (0 < P.cellsOf e) | _ => true
theorem slicesOk_spec (h : slicesOk P = true) {t e : TypeId} (ht : t < P.types.size) (hu : P.underlying t = some (.slice e)) : 0 < P.cellsOf e := by
  unfold slicesOk at h
  rw [List.all_eq_true] at h
  have := h t (List.mem_range.2 ht)
  rw [hu] at this
  simpa using this
end
end Go.Proofs.AE
set_option linter.unusedVariables false
set_option linter.unusedSimpArgs false
set_option maxRecDepth 100000
set_option maxHeartbeats 8000000
namespace Go.Proofs.YtkkleopmambcnaaGreatDoor
open Go Go.RowKit Go.Proofs.AE
variable {G : Nat → AV}
theorem kids : Kids Tryz.prog (· < Tryz.prog.types.size) := kids_rows (by kernel_rfl) (by kernel_rfl)
theorem slok : slicesOk Tryz.prog = true := by kernel_rfl
def someS (n : Int) : ByteArray := ⟨#[UInt8.ofNat (97 + pk n 9).toNat]⟩
def cutS (s : ByteArray) (n : Int) : ByteArray := s.extract 0 (if n < (s.size : Int) then n else (s.size : Int)).toNat
def cmdText (n : Int) (text : ByteArray) : ByteArray := if pk n 3 = 0 then someS n else cutS text 6
end Go.Proofs.YtkkleopmambcnaaGreatDoor
set_option linter.unusedVariables false
set_option linter.unusedSimpArgs false
set_option maxRecDepth 100000
set_option maxHeartbeats 8000000
namespace Go.Proofs.YtkkleopmambcnaaGreatDoor
open Go Go.RowKit Go.Proofs.AE
variable {G : Nat → AV}
def checkCall (client seq k : Int) (key field text : ByteArray) (n : Int) : Int :=
  if decide (client = 0) then (if (seq == 0 && (k == 0 && (decide (key = ⟨#[]⟩) && (decide (field = ⟨#[]⟩) && (decide (text = ⟨#[]⟩) && n == 0))))) then 0 else 8)
  else if okNumber client then (if okNumber seq then checkCommand k key field text n else 2) else 2
theorem checkCall_c (client seq k : Int) (key field text : ByteArray) (n : Int) : PCall Tryz.prog G 46 [.agg [iC client, iC seq, iC k, sC key, sC field, sC text, iC n]] (iV (checkCall client seq k key field text n)) := by
  refine pcallc mixed Tryz.func46 ac_client_CheckCall ?_
  repeat' (first | (with_reducible first | refine Cn (fun h => ?_) fun h => ?_ | refine And.intro ?_ ?_ | refine wR ?_ | exact wr _ _ | refine wa ?_ | apply awp_join | refine q (number_c _) ?_ | refine qd (number_c _) ?_ | refine qz (number_c _) ?_ | refine q (check_c _ _ _ _ _) ?_ | refine qd (check_c _ _ _ _ _) ?_ | refine qz (check_c _ _ _ _ _) ?_) | (with_reducible refine CallZ.z ?_) | simp -dsimp [go_sem])
  all_goals simp_all [checkCall]
  all_goals (intros; simp_all)
theorem nodup_le {α : Type} [DecidableEq α] : ∀ (l m : List α), l.Pairwise (· ≠ ·) → (∀ x ∈ l, x ∈ m) → l.length ≤ m.length
  | [], m, _, _ => Nat.zero_le _
  | x :: l, m, h, hm => by
    obtain ⟨h1, h2⟩ := List.pairwise_cons.1 h
    have hx := hm x (List.mem_cons_self ..)
    have := nodup_le l (m.erase x) h2 fun y hy => (List.mem_erase_of_ne fun e => h1 y hy e.symm).2 (hm y (List.mem_cons_of_mem _ hy))
    have hl := List.length_erase_of_mem hx
    have hp := List.length_pos_of_mem hx
    simp only [List.length_cons]; omega
def nine : List ByteArray := (List.range 9).map fun i => ⟨#[UInt8.ofNat (97 + i)]⟩
end Go.Proofs.YtkkleopmambcnaaGreatDoor
set_option linter.unusedVariables false
set_option linter.unusedSimpArgs false
set_option maxRecDepth 100000
set_option maxHeartbeats 8000000
namespace Go.Proofs.YtkkleopmambcnaaGreatDoor
open Go Go.RowKit Go.Proofs.AE
theorem wf_i64 {n : Int} (h : (Lit.int .i64 n).wf = true) : i64 n := by
  rw [Lit.wf] at h
  simp only [Bool.and_eq_true, decide_eq_true_eq] at h
  exact h
structure Deed where
  client : Int
  off : Int
  wait : Int
  kind : Int
  key : Int
  field : Int
  n : Int
  text : ByteArray
abbrev iL (n : Int) : V := .lit (.int .i64 n)
abbrev sL (s : ByteArray) : V := .lit (.string s)
def Deed.row (d : Deed) : List V := [iL d.client, iL d.off, iL d.wait, iL d.kind, iL d.key, iL d.field, iL d.n, sL d.text]
structure Deed.Ok (d : Deed) : Prop where
  client : i64 d.client
  off : i64 d.off
  wait : i64 d.wait
  kind : i64 d.kind
  key : i64 d.key
  field : i64 d.field
  n : i64 d.n
end Go.Proofs.YtkkleopmambcnaaGreatDoor
set_option linter.unusedVariables false
set_option linter.unusedSimpArgs false
set_option maxRecDepth 100000
set_option maxHeartbeats 8000000
namespace Go.Proofs.YtkkleopmambcnaaGreatDoor
open Go Go.RowKit Go.Proofs.AE
variable {G : Nat → AV}
theorem DoEnd_vk {v : Val} {q : Val × Rep} (hv : Vk v) (hq : q.2.code = 0 → OkB q.1) : (DoEnd v q).2.2 = 0 ∧ Vk (DoEnd v q).1 := by
  unfold DoEnd
  by_cases h : q.2.code ≠ 0
  · rw [if_pos h]; exact ⟨rfl, hv⟩
  · rw [if_neg h]
    have h0 : q.2.code = 0 := Classical.not_not.1 h
    by_cases h2 : 3 ≤ q.1.kind ∧ q.1.els = 0
    · rw [if_pos h2]; exact ⟨rfl, .inr rfl⟩
    · rw [if_neg h2]; exact ⟨rfl, .inl ((hq h0).ok h2)⟩
theorem kindOf_zero {k : Int} (h1 : 1 ≤ k) (h2 : k ≤ 16) (h : k ≠ 1) : kindOfC k ≠ 0 := by
  unfold kindOfC
  repeat' split
  all_goals omega
theorem DoV_vk {v : Val} {c : Cmd} (h : Vk v) (hc : checkC c = 0) (hk : c.kind ≤ 18) : (DoV v c).2.2 = 0 ∧ Vk (DoV v c).1 := by
  have hk1 := checkC_kind hc
  rcases h with h | h
  · have hv := checkV_iff.2 h
    by_cases hm : (kindOfC c.kind ≠ 0 ∧ kindOfC c.kind ≠ v.kind) ∨ (17 ≤ c.kind ∧ v.kind < 3)
    · rw [DoV_type hv hc hk hm]; exact ⟨rfl, .inl h⟩
    · rw [DoV_go hv hc hk hm]
      refine DoEnd_vk (.inl h) fun h0 => ?_
      by_cases h17 : 17 ≤ c.kind
      · have hk2 : c.kind = 17 ∨ c.kind = 18 := by omega
        rcases hk2 with e | e <;> (unfold doV; simp [e]; exact h.b)
      · refine doV_ok h.b hc (by omega) ?_ h0
        by_cases e : c.kind = 1
        · exact .inl e
        · have := kindOf_zero hk1 (by omega) e
          refine .inr ?_
          simp only [not_or, not_and, Classical.not_not] at hm
          exact hm.1 this
  · subst h
    rw [DoV_zero hc hk]
    cases hmk : makesC c.kind with
    | false => exact ⟨rfl, .inr rfl⟩
    | true =>
      simp only [if_true]
      have hk2 : c.kind ≤ 14 := by
        unfold makesC at hmk
        simp at hmk
        omega
      refine DoEnd_vk (.inr rfl) fun h0 => ?_
      by_cases e : c.kind = 1
      · have hd : doV ⟨kindOfC c.kind, ⟨#[]⟩, 0, [], [], []⟩ c = doV ⟨1, ⟨#[]⟩, 0, [], [], []⟩ c := by unfold doV; rw [if_pos e, if_pos e]
        rw [hd] at h0 ⊢
        exact doV_ok (fresh_b (by omega) (by omega)) hc (by omega) (.inl e) h0
      · have hne := kindOf_zero hk1 (by omega) e
        have hr : 1 ≤ kindOfC c.kind ∧ kindOfC c.kind ≤ 6 := by
          unfold kindOfC at hne ⊢
          repeat' split
          all_goals simp_all
        exact doV_ok (fresh_b hr.1 hr.2) hc (by omega) (.inr rfl) h0
structure Raw where
  kind : Int
  key : Int
  field : Int
  n : Int
  text : ByteArray
def Raw.row (r : Raw) : List V := [.lit (.int .i64 r.kind), .lit (.int .i64 r.key), .lit (.int .i64 r.field), .lit (.int .i64 r.n), .lit (.string r.text)]
structure Raw.Ok (r : Raw) : Prop where
  kind : i64 r.kind
  key : i64 r.key
  field : i64 r.field
  n : i64 r.n
def cmdK (k : Int) (r : Raw) : Cmd :=
  ⟨k, if k = 22 then ⟨#[]⟩ else someS r.key, if k = 4 ∨ k = 5 ∨ k = 6 then someS r.field else ⟨#[]⟩,
   if k = 1 ∨ k = 4 ∨ k = 7 ∨ k = 8 ∨ k = 11 ∨ k = 12 ∨ k = 13 ∨ k = 14 ∨ k = 15 ∨ k = 16 then cmdText r.n r.text else ⟨#[]⟩,
   if k = 3 then r.n.tmod 1073741824 else if k = 20 then pk r.n 60 else if k = 14 then pk r.n 12 - 6 else 0⟩
def cmdR (r : Raw) : Cmd := cmdK (1 + pk r.kind 22) r
end Go.Proofs.YtkkleopmambcnaaGreatDoor
set_option linter.unusedVariables false
set_option linter.unusedSimpArgs false
set_option maxRecDepth 100000
set_option maxHeartbeats 8000000
namespace Go.Proofs.YtkkleopmambcnaaGreatDoor
open Go Go.RowKit Go.Proofs.AE
variable {G : Nat → AV}
instance : DecidableEq Val := fun a b => decidable_of_iff (a.kind = b.kind ∧ a.text = b.text ∧ a.count = b.count ∧ a.pairs = b.pairs ∧ a.items = b.items ∧ a.scores = b.scores) (by
  cases a; cases b; simp)
end Go.Proofs.YtkkleopmambcnaaGreatDoor
set_option linter.unusedVariables false
set_option linter.unusedSimpArgs false
set_option maxRecDepth 100000
set_option maxHeartbeats 8000000
namespace Go.Proofs.YtkkleopmambcnaaGreatDoor
open Go Go.RowKit Go.Proofs.AE
variable {G : Nat → AV}
structure Ent where
  key : ByteArray
  val : Val
  till : Int
structure Sto where
  now : Int
  ents : List Ent
def Val.v (v : Val) : List V := [.lit (.int .i64 v.kind), .lit (.string v.text), .lit (.int .i64 v.count), .sl (pR v.pairs), .sl (strRows v.items), .sl (sR v.scores)]
def Ent.row (e : Ent) : List V := [.lit (.string e.key), .lit (.int .i64 e.val.kind), .lit (.string e.val.text), .lit (.int .i64 e.val.count), .sl (pR e.val.pairs), .sl (strRows e.val.items), .sl (sR e.val.scores), .lit (.int .i64 e.till)]
def Ent.c (e : Ent) : List C := [sC e.key, iC e.val.kind, sC e.val.text, iC e.val.count, .v (.sl (pR e.val.pairs)), .v (.sl (strRows e.val.items)), .v (.sl (sR e.val.scores)), iC e.till]
abbrev eR (l : List Ent) : List (List V) := l.map Ent.row
def Sto.c (s : Sto) : List C := [iC s.now, .v (.sl (eR s.ents))]
theorem ul_e (l : List Ent) : UL 8 (eR l) := by
  intro r hr
  obtain ⟨y, _, rfl⟩ := List.mem_map.1 hr
  rfl
def Sto.Small (s : Sto) : Prop := s.ents.length ≤ 1000 ∧ ∀ e ∈ s.ents, e.val.Small
def entBad (now : Int) (e : Ent) : Bool := !okField e.key || checkV e.val != 0 || (e.till != 0 && (decide (e.till ≤ now) || decide (1073741824 < e.till)))
def bE (a b : Ent) : Int := cmpB a.key b.key
def checkS (s : Sto) : Int :=
  if s.now < 0 ∨ 1073741824 < s.now ∨ 12 < s.ents.length then 13
  else if s.ents.any (entBad s.now) = true then 13
  else if rising bE s.ents = true then 0 else 13
def goneE (now : Int) (e : Ent) : Bool := e.till != 0 && decide (e.till ≤ now)
def findE (l : List Ent) (k : ByteArray) : Nat := plc (fun e => decide (cmpB e.key k < 0)) l
def inE (l : List Ent) (k : ByteArray) : Bool := match l[findE l k]? with | some e => cmpB e.key k == 0 | none => false
def setE (l : List Ent) (c : Cmd) (v : Val) : List Ent :=
  match (if inE l c.key then l[findE l c.key]? else none) with
  | some e => l.set (findE l c.key) ⟨e.key, v, if c.kind = 1 then 0 else e.till⟩
  | none => insAt l (findE l c.key) ⟨c.key, v, 0⟩
def timedE (now : Int) (l : List Ent) (c : Cmd) : List Ent × Rep :=
  match (if inE l c.key then l[findE l c.key]? else none) with
  | none => (l, failR 5)
  | some e =>
    if c.kind = 21 then (l, toldR (if e.till - now < 0 then 0 else e.till - now))
    else if c.n < 1 ∨ 1073741824 - now < c.n then (l, failR 2)
    else (l.set (findE l c.key) ⟨e.key, e.val, now + c.n⟩, toldR 0)
def oldV (l : List Ent) (c : Cmd) : Val := match (if inE l c.key then l[findE l c.key]? else none) with | some e => e.val | none => zeroV
def valE (l : List Ent) (c : Cmd) : List Ent × Rep :=
  if (DoV (oldV l c) c).2.1.code ≠ 0 then (l, (DoV (oldV l c) c).2.1)
  else if (DoV (oldV l c) c).1.kind = 0 ∧ inE l c.key = true then (delAt l (findE l c.key), (DoV (oldV l c) c).2.1)
  else if inE l c.key = false ∧ l.length = 12 then (l, failR 6)
  else if (DoV (oldV l c) c).1.kind ≠ 0 then (setE l c (DoV (oldV l c) c).1, (DoV (oldV l c) c).2.1)
  else (l, (DoV (oldV l c) c).2.1)
def doE (now : Int) (l : List Ent) (c : Cmd) : List Ent × Rep :=
  if c.kind = 22 then (l, ⟨0, ⟨#[]⟩, 0, l.map Ent.key⟩)
  else if c.kind = 19 then (if inE l c.key then (delAt l (findE l c.key), toldR 1) else (l, toldR 0))
  else if c.kind = 20 ∨ c.kind = 21 then timedE now l c
  else valE l c
def zeroS : Sto := ⟨0, []⟩
def maxI (a b : Int) : Int := if b < a then a else b
def ApplyS (s : Sto) (time : Int) (c : Cmd) : Sto × Rep × Int :=
  if checkS s ≠ 0 then (zeroS, toldR 0, checkS s)
  else if time < 0 ∨ 1073741824 < time then (zeroS, toldR 0, 2)
  else if checkC c ≠ 0 then (zeroS, toldR 0, checkC c)
  else (⟨maxI s.now time, (doE (maxI s.now time) (s.ents.filter fun e => !goneE (maxI s.now time) e) c).1⟩, (doE (maxI s.now time) (s.ents.filter fun e => !goneE (maxI s.now time) e) c).2, 0)
structure OkE (now : Int) (e : Ent) : Prop where
  key : okField e.key = true
  val : OkV e.val
  till : e.till = 0 ∨ now < e.till ∧ e.till ≤ 1073741824
theorem entBad_iff {now : Int} {e : Ent} : entBad now e = false ↔ OkE now e := by
  unfold entBad
  constructor
  · intro h
    simp only [Bool.or_eq_false_iff, Bool.not_eq_false', bne_eq_false_iff_eq, Bool.and_eq_false_iff, decide_eq_false_iff_not] at h
    exact ⟨h.1.1, checkV_iff.1 h.1.2, by rcases h.2 with h | h; exact .inl h; exact .inr (by omega)⟩
  · rintro ⟨h1, h2, h3⟩
    simp only [Bool.or_eq_false_iff, Bool.not_eq_false', bne_eq_false_iff_eq, Bool.and_eq_false_iff, decide_eq_false_iff_not]
    exact ⟨⟨h1, checkV_iff.2 h2⟩, by rcases h3 with h | h; exact .inl h; exact .inr (by omega)⟩
def Rise (l : List Ent) : Prop := l.Pairwise (fun a b => cmpB a.key b.key < 0)
structure OkS (s : Sto) : Prop where
  now : 0 ≤ s.now ∧ s.now ≤ 1073741824
  len : s.ents.length ≤ 12
  all : ∀ e ∈ s.ents, OkE s.now e
  rise : Rise s.ents
theorem bE_tr : ∀ a b c : Ent, bE a b < 0 → bE b c < 0 → bE a c < 0 := fun a b c h1 h2 => cmpB_tr _ _ _ h1 h2
theorem checkS_iff {s : Sto} : checkS s = 0 ↔ OkS s := by
  unfold checkS
  constructor
  · intro h
    split at h
    · cases h
    · rename_i h1
      split at h
      · cases h
      · rename_i h2
        split at h
        · rename_i h3
          refine ⟨by omega, by omega, fun e he => entBad_iff.1 ?_, (rising_iff bE_tr).1 h3⟩
          cases hb : entBad s.now e with
          | false => rfl
          | true => exact absurd (List.any_eq_true.2 ⟨e, he, hb⟩) h2
        · cases h
  · rintro ⟨h1, h2, h3, h4⟩
    rw [if_neg (by omega), if_neg, if_pos ((rising_iff bE_tr).2 h4)]
    intro h
    obtain ⟨e, he, hb⟩ := List.any_eq_true.1 h
    rw [entBad_iff.2 (h3 e he)] at hb; cases hb
theorem OkS.small {s : Sto} (h : OkS s) : s.Small := ⟨by have := h.len; omega, fun e he => (h.all e he).val.small⟩
def getE (l : List Ent) (k : ByteArray) : Option Ent := l.find? fun e => decide (e.key = k)
theorem getE_none {l : List Ent} {k : ByteArray} : getE l k = none ↔ ∀ e ∈ l, e.key ≠ k := by
  unfold getE
  rw [List.find?_eq_none]
  simp
theorem key_ne {a b : ByteArray} (h : cmpB a b < 0) : a ≠ b := fun e => by
  subst e
  rw [cmpB_self] at h
  omega
theorem getE_append (a b : List Ent) (k : ByteArray) : getE (a ++ b) k = (getE a k).or (getE b k) := List.find?_append
theorem split_E {l : List Ent} {i : Nat} {x : Ent} (h : l[i]? = some x) : l = l.take i ++ x :: l.drop (i + 1) := by
  have hl := (List.getElem?_eq_some_iff.1 h).1
  have hx := (List.getElem?_eq_some_iff.1 h).2
  rw [← hx, ← List.drop_eq_getElem_cons hl, List.take_append_drop]
theorem rise_split {a b : List Ent} {x : Ent} (h : Rise (a ++ x :: b)) : getE a x.key = none ∧ getE b x.key = none := by
  obtain ⟨h1, h2, h3⟩ := List.pairwise_append.1 h
  exact ⟨getE_none.2 fun e he => key_ne (h3 e he _ (List.mem_cons_self ..)), getE_none.2 fun e he => fun e2 => key_ne ((List.pairwise_cons.1 h2).1 e he) e2.symm⟩
theorem getE_at {l : List Ent} (hr : Rise l) {i : Nat} {x : Ent} (hi : l[i]? = some x) : getE l x.key = some x := by
  have hs := split_E hi
  rw [hs] at hr ⊢
  obtain ⟨h1, h2⟩ := rise_split hr
  rw [getE_append, h1]
  simp [getE]
theorem inE_some {l : List Ent} {k : ByteArray} (h : inE l k = true) : ∃ e, l[findE l k]? = some e ∧ e.key = k := by
  unfold inE at h
  cases hx : l[findE l k]? with
  | none => rw [hx] at h; cases h
  | some a => rw [hx] at h; exact ⟨a, rfl, cmpB_eq (by simpa using h)⟩
theorem findE_lt {l : List Ent} {k : ByteArray} : ∀ a ∈ l.take (findE l k), cmpB a.key k < 0 := fun a ha => by
  simpa using take_lt (fun e : Ent => decide (cmpB e.key k < 0)) l a ha
theorem findE_ge {l : List Ent} (hr : Rise l) {k : ByteArray} : ∀ (j : Nat) a, l[j]? = some a → findE l k ≤ j → 0 ≤ cmpB a.key k := fun j a h1 h2 => by
  have := plc_ge (cmp := bE) (fun e : Ent => decide (cmpB e.key k < 0)) bE_tr (fun a b h1 h2 => by
    simp only [decide_eq_true_eq] at h2 ⊢
    exact cmpB_tr _ _ _ h1 h2) l ((rising_iff bE_tr).2 hr) j a h1 h2
  simpa using this
theorem findE_drop {l : List Ent} (hr : Rise l) {k : ByteArray} (h : inE l k = false) : ∀ b ∈ l.drop (findE l k), cmpB k b.key < 0 := by
  intro b hb
  obtain ⟨j, hj, hbj⟩ := mem_drop_get hb
  have hge := findE_ge hr j b hbj hj
  have hne : cmpB b.key k ≠ 0 := by
    intro e
    rcases Nat.lt_or_ge (findE l k) j with hlt | hge'
    · have hlen := lt_of_getElem? hbj
      have ha : l[findE l k]? = some l[findE l k] := List.getElem?_eq_getElem (by omega)
      have h1 := findE_ge hr _ _ ha (Nat.le_refl _)
      have h2 : cmpB l[findE l k].key l[j].key < 0 := List.pairwise_iff_getElem.1 hr _ _ (by omega) hlen hlt
      rw [List.getElem?_eq_getElem hlen] at hbj
      have hb' : l[j] = b := Option.some.inj hbj
      rw [hb'] at h2
      have h3 := cmpB_eq e
      rw [h3] at h2; omega
    · have : j = findE l k := by omega
      subst this
      unfold inE at h
      rw [hbj] at h
      simp at h
      exact h e
  rw [cmpB_anti]; omega
theorem inE_get {l : List Ent} (hr : Rise l) (k : ByteArray) : inE l k = (getE l k).isSome ∧ (if inE l k then l[findE l k]? else none) = getE l k := by
  cases h : inE l k with
  | true =>
    obtain ⟨e, h1, h2⟩ := inE_some h
    have := getE_at hr h1
    rw [h2] at this
    rw [this]
    exact ⟨rfl, h1⟩
  | false =>
    have h1 := findE_drop hr h
    have h2 := findE_lt (l := l) (k := k)
    have : getE l k = none := getE_none.2 fun e he => by
      have hm : e ∈ l.take (findE l k) ++ l.drop (findE l k) := by rw [List.take_append_drop]; exact he
      rcases List.mem_append.1 hm with hm | hm
      · exact key_ne (h2 e hm)
      · exact fun e2 => key_ne (h1 e hm) e2.symm
    rw [this]
    exact ⟨rfl, rfl⟩
theorem getE_mem {l : List Ent} {k : ByteArray} {e : Ent} (h : getE l k = some e) : e ∈ l ∧ e.key = k := by
  unfold getE at h
  exact ⟨List.mem_of_find?_eq_some h, by simpa using List.find?_some h⟩
theorem getE_ins {l : List Ent} (hr : Rise l) {x : Ent} (h : inE l x.key = false) : (∀ k, getE (insAt l (findE l x.key) x) k = if k = x.key then some x else getE l k) ∧ Rise (insAt l (findE l x.key) x) := by
  have hl : getE l x.key = none := by have := (inE_get hr x.key).1; rw [h] at this; cases hg : getE l x.key with | none => rfl | some => rw [hg] at this; cases this
  refine ⟨fun k => ?_, ?_⟩
  · have hg : getE l k = (getE (l.take (findE l x.key)) k).or (getE (l.drop (findE l x.key)) k) := by rw [← getE_append, List.take_append_drop]
    unfold insAt
    rw [getE_append]
    by_cases hk : k = x.key
    · subst hk
      have : getE (l.take (findE l x.key)) x.key = none := getE_none.2 fun e he => key_ne (findE_lt e he)
      rw [this]
      simp [getE]
    · have : getE (x :: l.drop (findE l x.key)) k = getE (l.drop (findE l x.key)) k := by
        unfold getE
        rw [List.find?_cons_of_neg]
        simpa using fun e => hk e.symm
      rw [this, if_neg hk, hg]
  · exact pair_ins hr (fun a ha => findE_lt a ha) (fun b hb => findE_drop hr h b hb)
theorem getE_set {l : List Ent} (hr : Rise l) {i : Nat} {x y : Ent} (hi : l[i]? = some x) (hk : y.key = x.key) : (∀ k, getE (l.set i y) k = if k = x.key then some y else getE l k) ∧ Rise (l.set i y) := by
  have hs := split_E hi
  have hlt := (List.getElem?_eq_some_iff.1 hi).1
  have hr' := hr
  rw [hs] at hr'
  obtain ⟨h1, h2⟩ := rise_split hr'
  have hset : l.set i y = l.take i ++ y :: l.drop (i + 1) := by rw [List.set_eq_take_append_cons_drop, if_pos hlt]
  refine ⟨fun k => ?_, ?_⟩
  · have hg : getE l k = (getE (l.take i) k).or (getE (x :: l.drop (i + 1)) k) := by rw [← getE_append, ← hs]
    rw [hset, getE_append, hg]
    by_cases h : k = x.key
    · subst h; rw [h1, if_pos rfl]; simp [getE, hk]
    · rw [if_neg h]
      congr 1
      unfold getE
      rw [List.find?_cons_of_neg, List.find?_cons_of_neg]
      · simpa using fun e => h e.symm
      · rw [hk]; simpa using fun e => h e.symm
  · rw [hset]
    obtain ⟨a1, a2, a3⟩ := List.pairwise_append.1 hr'
    obtain ⟨b1, b2⟩ := List.pairwise_cons.1 a2
    refine List.pairwise_append.2 ⟨a1, List.pairwise_cons.2 ⟨fun e he => by rw [hk]; exact b1 e he, b2⟩, fun e he f hf => ?_⟩
    rcases List.mem_cons.1 hf with rfl | hf
    · rw [hk]; exact a3 e he x (List.mem_cons_self ..)
    · exact a3 e he f (List.mem_cons_of_mem _ hf)
theorem getE_del {l : List Ent} (hr : Rise l) {i : Nat} {x : Ent} (hi : l[i]? = some x) : (∀ k, getE (delAt l i) k = if k = x.key then none else getE l k) ∧ Rise (delAt l i) := by
  have hs := split_E hi
  have hr' := hr
  rw [hs] at hr'
  obtain ⟨h1, h2⟩ := rise_split hr'
  refine ⟨fun k => ?_, hr.sublist (del_sub l i)⟩
  have hg : getE l k = (getE (l.take i) k).or (getE (x :: l.drop (i + 1)) k) := by rw [← getE_append, ← hs]
  unfold delAt
  rw [getE_append, hg]
  by_cases h : k = x.key
  · subst h; rw [h1, h2, if_pos rfl]; rfl
  · rw [if_neg h]
    congr 1
    unfold getE
    rw [List.find?_cons_of_neg]
    simpa using fun e => h e.symm
theorem vk_there {v : Val} (h : Vk v) (hk : v.kind ≠ 0) : OkV v := by
  rcases h with h | h
  · exact h
  · rw [h] at hk; exact absurd rfl hk
theorem checkC_key {c : Cmd} (hc : checkC c = 0) (hk : c.kind ≠ 22) : okField c.key = true := by
  cases hk' : okField c.key with
  | true => rfl
  | false =>
    exfalso
    have h22 : (c.kind != 22) = true := by simpa using hk
    unfold checkC checkCommand at hc
    rw [hk', h22] at hc
    repeat' split at hc
    all_goals first | (cases hc; done) | (simp at *; done)
theorem mem_getE {l : List Ent} (hr : Rise l) {e : Ent} (h : e ∈ l) : getE l e.key = some e := by
  obtain ⟨i, hi, rfl⟩ := List.getElem_of_mem h
  exact getE_at hr (List.getElem?_eq_getElem hi)
theorem insAt_len {α : Type} (l : List α) (i : Nat) (x : α) : (insAt l i x).length = l.length + 1 := insAt_length l i x
theorem delE_len {α : Type} {l : List α} {i : Nat} (h : i < l.length) : (delAt l i).length + 1 = l.length := by
  unfold delAt
  simp only [List.length_append, List.length_take, List.length_drop]; omega
def putE (l : List Ent) (c : Cmd) (v : Val) : Ent := ⟨c.key, v, match getE l c.key with | some e => if c.kind = 1 then 0 else e.till | none => 0⟩
theorem setE_spec {l : List Ent} (hr : Rise l) (c : Cmd) (v : Val) :
    (∀ k, getE (setE l c v) k = if k = c.key then some (putE l c v) else getE l k) ∧ Rise (setE l c v) ∧ (setE l c v).length = if (getE l c.key).isSome = true then l.length else l.length + 1 := by
  obtain ⟨h1, h2⟩ := inE_get hr c.key
  unfold setE putE
  cases h : inE l c.key with
  | true =>
    obtain ⟨e, h3, h4⟩ := inE_some h
    have hg := getE_at hr h3
    rw [h4] at hg
    rw [if_pos rfl, h3, hg]
    simp only
    obtain ⟨g1, g2⟩ := getE_set hr (y := ⟨e.key, v, if c.kind = 1 then 0 else e.till⟩) h3 rfl
    refine ⟨fun k => ?_, g2, by simp⟩
    rw [g1, h4]
  | false =>
    rw [h] at h1
    have hg : getE l c.key = none := by cases hg : getE l c.key with | none => rfl | some => rw [hg] at h1; cases h1
    rw [hg]
    simp only [Bool.false_eq_true, if_false]
    obtain ⟨g1, g2⟩ := getE_ins hr (x := ⟨c.key, v, 0⟩) h
    exact ⟨g1, g2, by rw [insAt_len]; rfl⟩
theorem oldV_get {l : List Ent} (hr : Rise l) (c : Cmd) : oldV l c = ((getE l c.key).map Ent.val).getD zeroV := by
  unfold oldV
  rw [(inE_get hr c.key).2]
  cases getE l c.key <;> rfl
structure Did (l : List Ent) (k : ByteArray) (x : Option Ent) (l' : List Ent) : Prop where
  rise : Rise l'
  here : getE l' k = x
  other : ∀ k', k' ≠ k → getE l' k' = getE l k'
  len : l'.length = if x.isSome = true then (if (getE l k).isSome = true then l.length else l.length + 1) else (if (getE l k).isSome = true then l.length - 1 else l.length)
theorem Did.none {l : List Ent} (hr : Rise l) (k : ByteArray) : Did l k (getE l k) l := ⟨hr, rfl, fun _ _ => rfl, by split <;> rfl⟩
theorem did_set {l : List Ent} (hr : Rise l) (c : Cmd) (v : Val) : Did l c.key (some (putE l c v)) (setE l c v) := by
  obtain ⟨h1, h2, h3⟩ := setE_spec hr c v
  exact ⟨h2, by rw [h1, if_pos rfl], fun k hk => by rw [h1, if_neg hk], h3⟩
theorem did_del {l : List Ent} (hr : Rise l) {k : ByteArray} (h : inE l k = true) : Did l k .none (delAt l (findE l k)) := by
  obtain ⟨e, h3, h4⟩ := inE_some h
  obtain ⟨g1, g2⟩ := getE_del hr h3
  have hg := getE_at hr h3
  rw [h4] at g1 hg
  refine ⟨g2, by rw [g1, if_pos rfl], fun k' hk => by rw [g1, if_neg hk], ?_⟩
  rw [hg]
  have := delE_len (lt_of_getElem? h3)
  simp
  omega
theorem did_upd {l : List Ent} (hr : Rise l) {k : ByteArray} {e : Ent} (h : getE l k = some e) (n : Int) (y : Ent) (hy : y.key = k) : Did l k (some y) (l.set (findE l k) y) := by
  have h1 := (inE_get hr k)
  rw [h] at h1
  rw [h1.1] at h1
  obtain ⟨g1, g2⟩ := getE_set hr (y := y) (i := findE l k) (x := e) (by simpa using h1.2) (by rw [hy]; exact (getE_mem h).2.symm)
  rw [(getE_mem h).2] at g1
  refine ⟨g2, by rw [g1, if_pos rfl], fun k' hk => by rw [g1, if_neg hk], ?_⟩
  rw [h]; simp
def newV (l : List Ent) (c : Cmd) : Val := (DoV (((getE l c.key).map Ent.val).getD zeroV) c).1
def newR (l : List Ent) (c : Cmd) : Rep := (DoV (((getE l c.key).map Ent.val).getD zeroV) c).2.1
theorem valE_spec {l : List Ent} (hr : Rise l) (c : Cmd) :
    Did l c.key (if (newR l c).code ≠ 0 then getE l c.key else if (newV l c).kind = 0 ∧ (getE l c.key).isSome = true then .none else if (getE l c.key).isSome = false ∧ l.length = 12 then getE l c.key else if (newV l c).kind ≠ 0 then some (putE l c (newV l c)) else getE l c.key) (valE l c).1 ∧
    (valE l c).2 = if (newR l c).code ≠ 0 then newR l c else if (newV l c).kind = 0 ∧ (getE l c.key).isSome = true then newR l c else if (getE l c.key).isSome = false ∧ l.length = 12 then failR 6 else newR l c := by
  have h1 := (inE_get hr c.key).1
  unfold valE
  rw [oldV_get hr, h1]
  simp only [← h1]
  change Did _ _ _ (if (newR l c).code ≠ 0 then (l, newR l c) else if (newV l c).kind = 0 ∧ inE l c.key = true then (delAt l (findE l c.key), newR l c) else if inE l c.key = false ∧ l.length = 12 then (l, failR 6) else if (newV l c).kind ≠ 0 then (setE l c (newV l c), newR l c) else (l, newR l c)).1 ∧ (if (newR l c).code ≠ 0 then (l, newR l c) else if (newV l c).kind = 0 ∧ inE l c.key = true then (delAt l (findE l c.key), newR l c) else if inE l c.key = false ∧ l.length = 12 then (l, failR 6) else if (newV l c).kind ≠ 0 then (setE l c (newV l c), newR l c) else (l, newR l c)).2 = _
  by_cases a1 : (newR l c).code ≠ 0
  · simp only [if_pos a1]
    exact ⟨Did.none hr _, trivial⟩
  · simp only [if_neg a1]
    by_cases a2 : (newV l c).kind = 0 ∧ inE l c.key = true
    · simp only [if_pos a2]
      exact ⟨did_del hr a2.2, trivial⟩
    · simp only [if_neg a2]
      by_cases a3 : inE l c.key = false ∧ l.length = 12
      · simp only [if_pos a3]
        exact ⟨Did.none hr _, trivial⟩
      · simp only [if_neg a3]
        by_cases a4 : (newV l c).kind ≠ 0
        · simp only [if_pos a4]
          exact ⟨did_set hr c _, trivial⟩
        · simp only [if_neg a4]
          exact ⟨Did.none hr _, trivial⟩
theorem timedE_spec {l : List Ent} (hr : Rise l) (now : Int) (c : Cmd) :
    (getE l c.key = none → timedE now l c = (l, failR 5)) ∧
    ∀ e, getE l c.key = some e → (c.kind = 21 → timedE now l c = (l, toldR (if e.till - now < 0 then 0 else e.till - now))) ∧
      (c.kind ≠ 21 → (c.n < 1 ∨ 1073741824 - now < c.n) → timedE now l c = (l, failR 2)) ∧
      (c.kind ≠ 21 → ¬ (c.n < 1 ∨ 1073741824 - now < c.n) → (timedE now l c).2 = toldR 0 ∧ Did l c.key (some ⟨c.key, e.val, now + c.n⟩) (timedE now l c).1) := by
  have h1 := (inE_get hr c.key).2
  unfold timedE
  rw [h1]
  constructor
  · intro h; rw [h]
  · intro e h
    rw [h]
    simp only
    refine ⟨fun hk => by rw [if_pos hk], fun hk hn => by rw [if_neg hk, if_pos hn], fun hk hn => ?_⟩
    rw [if_neg hk, if_neg hn]
    have hke := (getE_mem h).2
    rw [hke]
    exact ⟨rfl, did_upd hr h 0 _ rfl⟩
theorem Did.all {l l' : List Ent} {k : ByteArray} {x : Option Ent} (h : Did l k x l') (hr : Rise l) {p : Ent → Prop} (hp : ∀ e ∈ l, p e) (hx : ∀ e, x = some e → p e) : ∀ e ∈ l', p e := by
  intro e he
  have hg := mem_getE h.rise he
  by_cases hk : e.key = k
  · rw [hk, h.here] at hg; exact hx e hg
  · rw [h.other _ hk] at hg; exact hp e (getE_mem hg).1
theorem doE_ok {now : Int} {l : List Ent} {c : Cmd} (h0 : 0 ≤ now) (hn : now ≤ 1073741824) (hr : Rise l) (ha : ∀ e ∈ l, OkE now e) (hl : l.length ≤ 12) (hc : checkC c = 0) :
    Rise (doE now l c).1 ∧ (∀ e ∈ (doE now l c).1, OkE now e) ∧ (doE now l c).1.length ≤ 12 := by
  have hkind := checkC_kind hc
  have hfacts := checkC_facts hc
  have keep : ∀ {x : Option Ent} {l' : List Ent}, Did l c.key x l' → (x.isSome = true → (getE l c.key).isSome = false → l.length < 12) → (∀ e, x = some e → OkE now e) → Rise l' ∧ (∀ e ∈ l', OkE now e) ∧ l'.length ≤ 12 := by
    intro x l' hd hx ho
    refine ⟨hd.rise, hd.all hr ha ho, ?_⟩
    rw [hd.len]
    by_cases a1 : x.isSome = true
    · rw [if_pos a1]
      by_cases a2 : (getE l c.key).isSome = true
      · rw [if_pos a2]; exact hl
      · rw [if_neg a2]; have := hx a1 (by simpa using a2); omega
    · rw [if_neg a1]; split <;> omega
  have hin : ∀ e, getE l c.key = some e → OkE now e := fun e he => ha e (getE_mem he).1
  unfold doE
  by_cases k1 : c.kind = 22
  · rw [if_pos k1]; exact ⟨hr, ha, hl⟩
  · have hkey := checkC_key hc k1
    rw [if_neg k1]
    by_cases k2 : c.kind = 19
    · rw [if_pos k2]
      cases h : inE l c.key with
      | true => rw [if_pos rfl]; exact keep (did_del hr h) (fun h => by cases h) (fun e h => by cases h)
      | false => rw [if_neg (by simp)]; exact ⟨hr, ha, hl⟩
    · rw [if_neg k2]
      by_cases k3 : c.kind = 20 ∨ c.kind = 21
      · rw [if_pos k3]
        obtain ⟨t1, t2⟩ := timedE_spec hr now c
        cases hg : getE l c.key with
        | none => rw [t1 hg]; exact ⟨hr, ha, hl⟩
        | some e =>
          obtain ⟨t3, t4, t5⟩ := t2 e hg
          have hoe := hin e hg
          by_cases k4 : c.kind = 21
          · rw [t3 k4]; exact ⟨hr, ha, hl⟩
          · by_cases k5 : c.n < 1 ∨ 1073741824 - now < c.n
            · rw [t4 k4 k5]; exact ⟨hr, ha, hl⟩
            · refine keep (t5 k4 k5).2 (fun _ h => by rw [hg] at h; cases h) (fun y hy => ?_)
              cases hy
              exact ⟨hkey, hoe.val, .inr ⟨by show now < now + c.n; omega, by show now + c.n ≤ 1073741824; omega⟩⟩
      · rw [if_neg k3]
        have hk18 : c.kind ≤ 18 := by omega
        have hvk : Vk (((getE l c.key).map Ent.val).getD zeroV) := by
          cases hg : getE l c.key with
          | none => exact .inr rfl
          | some e => exact .inl (hin e hg).val
        have hnv := (DoV_vk hvk hc hk18).2
        change Vk (newV l c) at hnv
        refine keep (valE_spec hr c).1 (fun h1 h2 => ?_) (fun y hy => ?_)
        · have hgn : getE l c.key = none := by cases hg : getE l c.key with | none => rfl | some => rw [hg] at h2; cases h2
          rw [hgn] at h1
          simp only [Option.isSome_none, Bool.false_eq_true, and_false, if_false, true_and] at h1
          by_cases hl12 : l.length = 12
          · rw [if_pos hl12] at h1
            simp at h1
          · omega
        · by_cases a1 : (newR l c).code ≠ 0
          · rw [if_pos a1] at hy; exact hin y hy
          · rw [if_neg a1] at hy
            by_cases a2 : (newV l c).kind = 0 ∧ (getE l c.key).isSome = true
            · rw [if_pos a2] at hy; cases hy
            · rw [if_neg a2] at hy
              by_cases a3 : (getE l c.key).isSome = false ∧ l.length = 12
              · rw [if_pos a3] at hy; exact hin y hy
              · rw [if_neg a3] at hy
                by_cases a4 : (newV l c).kind ≠ 0
                · rw [if_pos a4] at hy
                  cases hy
                  refine ⟨hkey, vk_there hnv a4, ?_⟩
                  unfold putE
                  simp only
                  cases hg : getE l c.key with
                  | none => exact .inl rfl
                  | some e =>
                    simp only
                    by_cases a5 : c.kind = 1
                    · rw [if_pos a5]; exact .inl rfl
                    · rw [if_neg a5]; exact (hin e hg).till
                · rw [if_neg a4] at hy; exact hin y hy
def aliveS (now : Int) (s : Sto) : List Ent := s.ents.filter fun e => !goneE now e
theorem alive_ok {s : Sto} (h : OkS s) {now : Int} (hn : s.now ≤ now) : Rise (aliveS now s) ∧ (∀ e ∈ aliveS now s, OkE now e) ∧ (aliveS now s).length ≤ 12 := by
  refine ⟨h.rise.filter _, fun e he => ?_, Nat.le_trans (List.length_filter_le ..) h.len⟩
  obtain ⟨h1, h2⟩ := List.mem_filter.1 he
  have ho := h.all e h1
  refine ⟨ho.key, ho.val, ?_⟩
  rcases ho.till with h3 | h3
  · exact .inl h3
  · refine .inr ⟨?_, h3.2⟩
    unfold goneE at h2
    simp at h2
    rcases h2 with h2 | h2
    · have := h.now; omega
    · exact h2
theorem maxI_le (a b : Int) : a ≤ maxI a b ∧ b ≤ maxI a b := by unfold maxI; split <;> omega
theorem apply_ok {s : Sto} (h : OkS s) {t : Int} (h0 : 0 ≤ t) (h1 : t ≤ 1073741824) {c : Cmd} (hc : checkC c = 0) :
    ApplyS s t c = (⟨maxI s.now t, (doE (maxI s.now t) (aliveS (maxI s.now t) s) c).1⟩, (doE (maxI s.now t) (aliveS (maxI s.now t) s) c).2, 0) ∧ OkS ⟨maxI s.now t, (doE (maxI s.now t) (aliveS (maxI s.now t) s) c).1⟩ := by
  have hm := maxI_le s.now t
  have hb : maxI s.now t ≤ 1073741824 := by have := h.now; unfold maxI; split <;> omega
  obtain ⟨a1, a2, a3⟩ := alive_ok h hm.1
  obtain ⟨d1, d2, d3⟩ := doE_ok (by have := h.now; omega) hb a1 a2 a3 hc
  refine ⟨?_, ⟨⟨by have := h.now; show 0 ≤ maxI s.now t; omega, hb⟩, d3, d2, d1⟩⟩
  unfold ApplyS
  rw [if_neg (by rw [checkS_iff.2 h]; simp), if_neg (by omega), if_neg (by rw [hc]; simp)]
  rfl
structure Stp where
  raw : Raw
  wait : Int
structure Stp.Ok (x : Stp) : Prop where
  raw : x.raw.Ok
  wait : i64 x.wait
def Stp.row (x : Stp) : List V := [.lit (.int .i64 x.raw.kind), .lit (.int .i64 x.raw.key), .lit (.int .i64 x.raw.field), .lit (.int .i64 x.raw.n), .lit (.string x.raw.text), .lit (.int .i64 x.wait)]
def Stp.c (x : Stp) : List C := [iC x.raw.kind, iC x.raw.key, iC x.raw.field, iC x.raw.n, sC x.raw.text, iC x.wait]
def Few (l : List Ent) : Prop := ∀ e ∈ l, e.key ∈ nine
theorem few_len {l : List Ent} (hr : Rise l) (h : Few l) : l.length ≤ 9 := by
  have := nodup_le (l.map Ent.key) nine (List.pairwise_map.2 (hr.imp fun h => key_ne h)) fun x hx => by
    obtain ⟨p, hp, rfl⟩ := List.mem_map.1 hx
    exact h p hp
  rw [List.length_map] at this
  exact this
structure OkT (s : Sto) : Prop where
  ok : OkS s
  few : Few s.ents
theorem OkT.len {s : Sto} (h : OkT s) : s.ents.length ≤ 9 := few_len h.ok.rise h.few
end Go.Proofs.YtkkleopmambcnaaGreatDoor
set_option linter.unusedVariables false
set_option linter.unusedSimpArgs false
set_option maxRecDepth 100000
set_option maxHeartbeats 8000000
namespace Go.Proofs.YtkkleopmambcnaaGreatDoor
open Go Go.RowKit Go.Proofs.AE
variable {G : Nat → AV}
theorem weak_thaw {k : Nat} {s : S} (b o e m : Nat) {t : TypeId} {cs : List C} (h1 : s.hp[b]? = some (some (.box t cs))) (h2 : cs[o]? = some .nil) (hm : 0 < m) :
    Weak k s { s with hp := s.hp.set b (some (.box t (cs.set o (.ar s.hp.length)))) ++ [some (.arr e m [])] } :=
  ⟨rfl, fun n w ok μ a hst => ⟨ok, _, hst.step (hr_thaw hst.hr h1 h2 hm), (hr_thaw hst.hr h1 h2 hm).far⟩⟩
def tstE (now : Int) (p : Option Ent) (e : Ent) : Bool := !okField e.key || checkV e.val != 0 || (match p with | some p => !decide (cmpB p.key e.key < 0) | none => false) || (e.till != 0 && (decide (e.till ≤ now) || decide (1073741824 < e.till)))
def chkE (now : Int) : Option Ent → List Ent → Int
  | _, [] => 0
  | p, e :: r => if tstE now p e = true then 13 else chkE now (some e) r
theorem chkE_eq (now : Int) : ∀ (l : List Ent) (p : Option Ent), chkE now p l = if l.any (entBad now) = true then 13 else if rising bE ((match p with | some p => [p] | none => []) ++ l) = true then 0 else 13
  | [], p => by cases p <;> rfl
  | e :: r, p => by
    have ih := chkE_eq now r (some e)
    unfold chkE tstE
    rw [ih]
    have hb : entBad now e = (!okField e.key || checkV e.val != 0 || (e.till != 0 && (decide (e.till ≤ now) || decide (1073741824 < e.till)))) := rfl
    cases p with
    | none =>
      simp only [List.any_cons, hb, List.nil_append, List.singleton_append]
      cases (!okField e.key || checkV e.val != 0) <;> cases (e.till != 0 && (decide (e.till ≤ now) || decide (1073741824 < e.till))) <;> simp
    | some p =>
      have hr : rising bE ([p] ++ e :: r) = (decide (bE p e < 0) && rising bE (e :: r)) := rfl
      have hr2 : rising bE (p :: e :: r) = (decide (bE p e < 0) && rising bE (e :: r)) := rfl
      simp only [List.any_cons, hb, hr, List.singleton_append]
      have hd : decide (cmpB p.key e.key < 0) = decide (bE p e < 0) := rfl
      rw [hd]
      cases (!okField e.key || checkV e.val != 0) <;> cases (e.till != 0 && (decide (e.till ≤ now) || decide (1073741824 < e.till))) <;> cases hbe : decide (bE p e < 0) <;> simp [hr2, hbe]
theorem okField_alt (s : ByteArray) : okField s = !(decide ((s.size : Int) < 1) || decide (12 < (s.size : Int))) := by
  unfold okField
  rw [Bool.eq_iff_iff]
  simp <;> omega
def prevE (l : List Ent) (i : Nat) : Option Ent := if i = 0 then none else l[i - 1]?
theorem chkE_drop (now : Int) {l : List Ent} {i : Nat} {e : Ent} (h : l[i]? = some e) : chkE now (prevE l i) (l.drop i) = if tstE now (prevE l i) e = true then 13 else chkE now (prevE l (i + 1)) (l.drop (i + 1)) := by
  have hl := (List.getElem?_eq_some_iff.1 h).1
  have hx := (List.getElem?_eq_some_iff.1 h).2
  rw [List.drop_eq_getElem_cons hl, hx]
  have hp : prevE l (i + 1) = some e := by unfold prevE; simpa using h
  rw [hp]
  rfl
theorem checkS_chk (s : Sto) : checkS s = if s.now < 0 ∨ 1073741824 < s.now ∨ 12 < s.ents.length then 13 else chkE s.now none s.ents := by
  unfold checkS
  rw [chkE_eq]
  rfl
theorem checkS_c (s : Sto) (hs : s.Small) : PCall Tryz.prog G 64 [.agg s.c] (iV (checkS s)) := by
  obtain ⟨now, l⟩ := s
  obtain ⟨s1, s2⟩ := hs
  simp only at s1 s2
  rw [checkS_chk]
  simp only [Sto.c]
  by_cases hb : now < 0 ∨ 1073741824 < now ∨ 12 < l.length
  · rw [if_pos hb]
    refine pcallc mixed Tryz.func64 ac_store_Check ?_
    repeat' (first | (with_reducible first | refine Cn (fun h => ?_) fun h => ?_ | refine And.intro ?_ ?_ | refine wR ?_ | exact wr _ _ | refine wa ?_ | apply awp_join) | (with_reducible refine CallZ.z ?_) | simp -dsimp [go_sem])
    all_goals (exfalso; clear s2; simp at *; omega)
  · rw [if_neg hb]
    have b1 : decide (now < 0) = false := by simp; omega
    have b2 : decide (1073741824 < now) = false := by simp; omega
    have b3 : decide (12 < (l.length : Int)) = false := by simp; omega
    refine pcallc mixed Tryz.func64 ac_store_Check ?_
    repeat' (first | (with_reducible first | refine Cn (fun h => ?_) fun h => ?_ | refine And.intro ?_ ?_ | refine wR ?_ | exact wr _ _ | refine wa ?_ | apply awp_join) | (with_reducible refine CallZ.z ?_) | simp -dsimp [go_sem, b1, b2, b3])
    refine awp_loop (fun i : Nat => ⟨[(1, .one (.ptr 0 0)), (20, .one (.v (.sl (eR l)))), (21, iV l.length), (22, iV i)], G, [some (.box 50 [iC now, .v (.sl (eR l))])]⟩) (fun i => i ≤ l.length ∧ chkE now none l = chkE now (prevE l i) (l.drop i)) (fun i => l.length - i) 0 (weak_auto ?_) ⟨Nat.zero_le _, rfl⟩ ?_
    · simp -dsimp [go_sem]
    · rintro i ⟨hi, hx⟩
      rw [hx]
      by_cases hlt : i < l.length
      · obtain ⟨e, he⟩ : ∃ e, l[i]? = some e := ⟨_, List.getElem?_eq_getElem hlt⟩
        have e4 : IntKind.i64.wrap ((i : Int) + 1) = (i : Int) + 1 := IntWalk.i64_in _ (by omega)
        have q1 : decide (i < l.length) = true := by simpa using hlt
        have hcv := checkV_c (G := G) e.val (s2 e (List.mem_of_getElem? he))
        rw [chkE_drop now he]
        obtain ⟨T, hT⟩ : ∃ T, tstE now (prevE l i) e = T := ⟨_, rfl⟩
        have hT' := hT
        unfold tstE at hT'
        rw [okField_alt] at hT'
        obtain ⟨N, hN⟩ : ∃ N, chkE now (prevE l (i + 1)) (l.drop (i + 1)) = N := ⟨_, rfl⟩
        rw [hT, hN]
        clear hT
        obtain ⟨V, hV⟩ : ∃ V, checkV e.val = V := ⟨_, rfl⟩
        rw [hV] at hcv hT'
        obtain ⟨key, ⟨vk, vt, vn, vp, vi, vs⟩, till⟩ := e
        simp only [Val.c] at hcv
        simp only at hT'
        have hag : i + 1 ≤ l.length ∧ N = chkE now (prevE l (i + 1)) (l.drop (i + 1)) := ⟨hlt, hN.symm⟩
        by_cases h0 : i = 0
        · have q2 : decide (0 < i) = false := by simp; omega
          have hp : prevE l i = none := by unfold prevE; rw [if_pos h0]
          rw [hp] at hT'
          simp only at hT'
          repeat' (first | (with_reducible first | refine Cn (fun h => ?_) fun h => ?_ | refine And.intro ?_ ?_ | refine wR ?_ | exact wr _ _ | refine wa ?_ | apply awp_join | refine q hcv ?_ | refine qd hcv ?_ | refine qz hcv ?_) | (with_reducible refine CallZ.z ?_) | simp -dsimp [go_sem, he, Ent.row, e4, q1, q2])
          all_goals first
            | omega
            | (have hTt : T = true := by (rw [← hT']; simp [*])
               simp [hTt]; done)
            | (have hTf : T = false := by (rw [← hT']; simp [*])
               rw [hTf]
               refine Again.auto (i + 1) ?_ ?_ ?_
               · simp -dsimp [go_sem]
               · exact hag
               · show l.length - (i + 1) < l.length - i; omega)
        · obtain ⟨j, hj⟩ : ∃ j, i = j + 1 := ⟨i - 1, by omega⟩
          have q2 : decide (0 < i) = true := by simp; omega
          obtain ⟨p, hpj⟩ : ∃ p, l[j]? = some p := ⟨_, List.getElem?_eq_getElem (by omega)⟩
          have hp : prevE l i = some p := by unfold prevE; rw [if_neg h0, hj]; simpa using hpj
          rw [hp] at hT'
          have e5 : IntKind.i64.wrap ((i : Int) - 1) = (j : Int) := by rw [IntWalk.i64_in _ (by omega)]; omega
          have e6 : lessB p.key key = decide (cmpB p.key key < 0) := lessB_eq _ _
          obtain ⟨pkey, ⟨wk, wt, wn, wp, wi, ws⟩, ptill⟩ := p
          simp only at hT' e6
          repeat' (first | (with_reducible first | refine Cn (fun h => ?_) fun h => ?_ | refine And.intro ?_ ?_ | refine wR ?_ | exact wr _ _ | refine wa ?_ | apply awp_join | refine q hcv ?_ | refine qd hcv ?_ | refine qz hcv ?_) | (with_reducible refine CallZ.z ?_) | simp -dsimp [go_sem, he, hpj, Ent.row, e4, e5, q1, q2, e6])
          all_goals first
            | omega
            | (have hTt : T = true := by (rw [← hT']; simp [*])
               simp [hTt]; done)
            | (have hTf : T = false := by (rw [← hT']; simp [*])
               rw [hTf]
               refine Again.auto (i + 1) ?_ ?_ ?_
               · simp -dsimp [go_sem]
               · exact hag
               · show l.length - (i + 1) < l.length - i; omega)
      · have hn : l.drop i = [] := List.drop_eq_nil_of_le (by omega)
        have q1 : decide (i < l.length) = false := by simpa using hlt
        rw [hn]
        unfold chkE
        repeat' (first | (with_reducible first | refine Cn (fun h => ?_) fun h => ?_ | refine And.intro ?_ ?_ | refine wR ?_ | exact wr _ _ | refine wa ?_ | apply awp_join) | (with_reducible refine CallZ.z ?_) | simp -dsimp [go_sem, q1])
end Go.Proofs.YtkkleopmambcnaaGreatDoor
set_option linter.unusedVariables false
set_option linter.unusedSimpArgs false
set_option maxRecDepth 100000
set_option maxHeartbeats 8000000
namespace Go.Proofs.YtkkleopmambcnaaGreatDoor
open Go Go.RowKit Go.Proofs.AE
variable {G : Nat → AV}
def accE (l : List Ent) (i : Nat) : List (List V) := eR (l.take i)
theorem accE_zero (l : List Ent) : accE l 0 = [] := rfl
theorem accE_all (l : List Ent) {i : Nat} (h : l.length ≤ i) : accE l i = eR l := by unfold accE; rw [List.take_of_length_le h]
theorem accE_len (l : List Ent) {i : Nat} (h : i ≤ l.length) : (accE l i).length = i := by unfold accE; simp; omega
theorem accE_succ {l : List Ent} {i : Nat} {e : Ent} (h : l[i]? = some e) : accE l (i + 1) = accE l i ++ [e.row] := by
  unfold accE
  rw [List.take_add_one, h, Option.toList_some]
  simp
end Go.Proofs.YtkkleopmambcnaaGreatDoor
set_option linter.unusedVariables false
set_option linter.unusedSimpArgs false
set_option maxRecDepth 100000
set_option maxHeartbeats 8000000
namespace Go.Proofs.YtkkleopmambcnaaGreatDoor
open Go Go.RowKit Go.Proofs.AE
variable {G : Nat → AV}
theorem form_plain {k : Int} {key f t : ByteArray} {n : Int} (h1 : 1 ≤ k) (h2 : k ≤ 22) (hkey : k = 22 ∧ key = ⟨#[]⟩ ∨ k ≠ 22 ∧ okField key = true) (hf : (k = 4 ∨ k = 5 ∨ k = 6) ∧ okField f = true ∨ ¬ (k = 4 ∨ k = 5 ∨ k = 6) ∧ f = ⟨#[]⟩)
    (ht : okText t = true ∧ (k = 1 ∨ k = 4 ∨ k = 7 ∨ k = 8 ∨ k = 11 ∨ k = 12 ∨ k = 13 ∨ k = 14 ∨ k = 15 ∨ k = 16) ∨ t = ⟨#[]⟩) (hn : okCount n = true ∧ (k = 3 ∨ k = 14 ∨ k = 20) ∨ n = 0) : checkC ⟨k, key, f, t, n⟩ = 0 := by
  have ht' : okText t = true := by rcases ht with h | h; exact h.1; rw [h]; rfl
  have hn' : okCount n = true := by rcases hn with h | h; exact h.1; rw [h]; rfl
  have hform : formOk k key f t n = true := by
    unfold formOk
    have a1 : ((k != 22) || decide (key = ⟨#[]⟩)) = true := by
      rcases hkey with h | h
      · simp [h.2]
      · simp [h.1]
    have a2 : ((k == 4 || k == 5 || k == 6) || decide (f = ⟨#[]⟩)) = true := by
      rcases hf with h | h
      · rcases h.1 with e | e | e <;> simp [e]
      · simp [h.2]
    have a3 : ((k == 1 || k == 4 || k == 7 || k == 8 || k == 11 || k == 12 || k == 13 || k == 14 || k == 15 || k == 16) || decide (t = ⟨#[]⟩)) = true := by
      rcases ht with h | h
      · rcases h.2 with e | e | e | e | e | e | e | e | e | e <;> simp [e]
      · simp [h]
    have a4 : ((k == 3 || k == 14 || k == 20) || n == 0) = true := by
      rcases hn with h | h
      · rcases h.2 with e | e | e <;> simp [e]
      · simp [h]
    rw [a1, a2, a3, a4]; rfl
  unfold checkC checkCommand
  simp only
  rw [if_neg (by omega), if_neg (by omega), if_neg (by rw [hform]; simp)]
  have b : ((k != 22 && !okField key || ((k == 4 || k == 5 || k == 6) && !okField f)) || !okText t) = false := by
    rw [ht']
    have b1 : (k != 22 && !okField key) = false := by
      rcases hkey with h | h
      · simp [h.1]
      · simp [h.2]
    rw [b1]
    rcases hf with h | h
    · rw [h.2]; simp
    · have : (k == 4 || k == 5 || k == 6) = false := by
        have := h.1
        simp; omega
      rw [this]; simp
  rw [b, hn']
  simp
def keysC : Cmd := ⟨22, ⟨#[]⟩, ⟨#[]⟩, ⟨#[]⟩, 0⟩
theorem keysC_ok : checkC keysC = 0 := form_plain (by omega) (by omega) (.inl ⟨rfl, rfl⟩) (.inr ⟨by omega, rfl⟩) (.inr rfl) (.inr rfl)
theorem doE_keys (now : Int) (l : List Ent) : doE now l keysC = (l, ⟨0, ⟨#[]⟩, 0, l.map Ent.key⟩) := by
  unfold doE
  rw [if_pos (show keysC.kind = 22 from rfl)]
end Go.Proofs.YtkkleopmambcnaaGreatDoor
