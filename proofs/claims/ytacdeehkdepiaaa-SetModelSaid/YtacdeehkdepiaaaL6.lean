/- The functions ValueMay, LenAll and TypeTold answer true. -/
import Derived.Test.YtacdeehkdepiaaaL5
set_option linter.unusedVariables false
set_option linter.unusedSimpArgs false
set_option maxRecDepth 100000
set_option maxHeartbeats 8000000
namespace Go.Proofs.Ytacdeehkdepiaaa
open Go Go.RowKit Go.Proofs.AE
variable {G : Nat → AV}
def ac_rostrumkeep_ValueMay : ACode := .seq (.reg [⟨some 5, .box 24 (.tmp 2), none⟩,
    ⟨some 6, .assign (.const (.bool false)), none⟩]) (.seq (.reg [⟨some 12, .move (.tmp 0), none⟩,
    ⟨some 13, .move (.tmp 1), none⟩,
    ⟨some 14, .call { callee := .value (.func 21), args := #[.tmp 12, .tmp 13], argTypes := #[3, 22] }, none⟩,
    ⟨some 7, .alloc 29, none⟩,
    ⟨none, .store 29 (.tmp 7) (.tmp 14), none⟩]) (.seq (.seq (.reg [⟨some 15, .load 29 (.tmp 7), none⟩,
    ⟨some 16, .call { callee := .value (.func 22), args := #[.tmp 15], argTypes := #[29] }, none⟩,
    ⟨some 17, .binOp .neq 31 (.tmp 16) (.const (.int .i64 0)) 31, none⟩]) (.cond (.tmp 17) (.seq (.reg [⟨some 6, .assign (.const (.bool false)), none⟩]) .ret) .skip)) (.seq (.reg [⟨some 18, .load 24 (.tmp 5), none⟩,
    ⟨some 19, .call { callee := .value (.func 23), args := #[.tmp 18], argTypes := #[24] }, none⟩,
    ⟨some 8, .alloc 34, none⟩,
    ⟨none, .store 34 (.tmp 8) (.tmp 19), none⟩]) (.seq (.reg [⟨some 21, .load 29 (.tmp 7), none⟩,
    ⟨some 22, .load 34 (.tmp 8), none⟩,
    ⟨some 23, .call { callee := .value (.func 24), args := #[.tmp 21, .tmp 22], argTypes := #[29, 34] }, none⟩,
    ⟨some 20, .move (.tmp 23), none⟩,
    ⟨some 24, .extract (.tmp 20) 0, none⟩,
    ⟨some 25, .extract (.tmp 20) 1, none⟩,
    ⟨some 26, .extract (.tmp 20) 2, none⟩,
    ⟨some 9, .alloc 29, none⟩,
    ⟨some 10, .alloc 37, none⟩,
    ⟨none, .store 29 (.tmp 9) (.tmp 24), none⟩,
    ⟨none, .store 37 (.tmp 10) (.tmp 25), none⟩,
    ⟨some 11, .assign (.tmp 26), none⟩]) (.seq (.seq (.reg [⟨some 27, .fieldAddr 34 (.tmp 8) 0, none⟩,
    ⟨some 28, .load 3 (.tmp 27), none⟩,
    ⟨some 29, .binOp .gtr 3 (.tmp 28) (.const (.int .i64 18)) 3, none⟩]) (.cond (.tmp 29) (.seq (.reg [⟨some 30, .move (.tmp 11), none⟩,
    ⟨some 31, .binOp .eql 31 (.tmp 30) (.const (.int .i64 3)) 31, none⟩,
    ⟨some 32, .move (.tmp 31), none⟩,
    ⟨some 33, .fieldAddr 29 (.tmp 9) 0, some (32, true)⟩,
    ⟨some 34, .load 3 (.tmp 33), some (32, true)⟩,
    ⟨some 35, .binOp .eql 3 (.tmp 34) (.const (.int .i64 0)) 3, some (32, true)⟩,
    ⟨some 36, .pick (.tmp 32) (.tmp 35) (.const (.bool false)), none⟩,
    ⟨some 6, .assign (.tmp 36), none⟩]) .ret) .skip)) (.seq (.reg [⟨some 37, .move (.tmp 11), none⟩,
    ⟨some 38, .binOp .eql 31 (.tmp 37) (.const (.int .i64 0)) 31, none⟩,
    ⟨some 39, .move (.tmp 38), none⟩,
    ⟨some 40, .fieldAddr 29 (.tmp 9) 0, some (39, true)⟩,
    ⟨some 41, .load 3 (.tmp 40), some (39, true)⟩,
    ⟨some 42, .binOp .eql 3 (.tmp 41) (.const (.int .i64 0)) 3, some (39, true)⟩,
    ⟨some 43, .move (.tmp 42), some (39, true)⟩,
    ⟨some 44, .load 29 (.tmp 9), some (43, true)⟩,
    ⟨some 45, .build 29 #[], some (43, true)⟩,
    ⟨some 46, .call { callee := .value (.func 25), args := #[.tmp 44, .tmp 45], argTypes := #[29, 29] }, some (43, true)⟩,
    ⟨some 47, .pick (.tmp 43) (.tmp 46) (.const (.bool false)), some (39, true)⟩,
    ⟨some 48, .move (.tmp 47), some (39, true)⟩,
    ⟨some 49, .load 29 (.tmp 9), some (48, false)⟩,
    ⟨some 50, .call { callee := .value (.func 22), args := #[.tmp 49], argTypes := #[29] }, some (48, false)⟩,
    ⟨some 51, .binOp .eql 31 (.tmp 50) (.const (.int .i64 0)) 31, some (48, false)⟩,
    ⟨some 52, .pick (.tmp 48) (.const (.bool true)) (.tmp 51), some (39, true)⟩,
    ⟨some 53, .pick (.tmp 39) (.tmp 52) (.const (.bool false)), none⟩,
    ⟨some 6, .assign (.tmp 53), none⟩]) .ret))))))
theorem rs_rostrumkeep_ValueMay : Try.f3.results.toList = [.tmp 6] := rfl
theorem ok_rostrumkeep_ValueMay : Try.f3.body.bind (comp Try.f3.ntmps) = some ac_rostrumkeep_ValueMay := by kernel_rfl
def ac_rostrumkeep_LenAll : ACode := .seq (.reg [⟨some 4, .assign (.const (.bool false)), none⟩]) (.seq (.reg [⟨some 12, .move (.tmp 0), none⟩,
    ⟨some 13, .call { callee := .value (.func 28), args := #[.tmp 12, .const (.int .i64 4)], argTypes := #[3, 3] }, none⟩,
    ⟨some 14, .binOp .add 3 (.const (.int .i64 2)) (.tmp 13) 3, none⟩,
    ⟨some 15, .move (.tmp 1), none⟩,
    ⟨some 16, .call { callee := .value (.func 21), args := #[.tmp 14, .tmp 15], argTypes := #[3, 22] }, none⟩,
    ⟨some 5, .alloc 29, none⟩,
    ⟨none, .store 29 (.tmp 5) (.tmp 16), none⟩]) (.seq (.reg [⟨some 18, .load 29 (.tmp 5), none⟩,
    ⟨some 19, .build 34 #[(0, .const (.int .i64 17)), (1, .const (.string { data := #[107] }))], none⟩,
    ⟨some 20, .call { callee := .value (.func 24), args := #[.tmp 18, .tmp 19], argTypes := #[29, 34] }, none⟩,
    ⟨some 17, .move (.tmp 20), none⟩,
    ⟨some 21, .extract (.tmp 17) 0, none⟩,
    ⟨some 22, .extract (.tmp 17) 1, none⟩,
    ⟨some 23, .extract (.tmp 17) 2, none⟩,
    ⟨some 6, .alloc 29, none⟩,
    ⟨some 7, .alloc 37, none⟩,
    ⟨none, .store 29 (.tmp 6) (.tmp 21), none⟩,
    ⟨none, .store 37 (.tmp 7) (.tmp 22), none⟩,
    ⟨some 8, .assign (.tmp 23), none⟩]) (.seq (.reg [⟨some 25, .load 29 (.tmp 5), none⟩,
    ⟨some 26, .build 34 #[(0, .const (.int .i64 18)), (1, .const (.string { data := #[107] }))], none⟩,
    ⟨some 27, .call { callee := .value (.func 24), args := #[.tmp 25, .tmp 26], argTypes := #[29, 34] }, none⟩,
    ⟨some 24, .move (.tmp 27), none⟩,
    ⟨some 28, .extract (.tmp 24) 0, none⟩,
    ⟨some 29, .extract (.tmp 24) 1, none⟩,
    ⟨some 30, .extract (.tmp 24) 2, none⟩,
    ⟨some 9, .alloc 29, none⟩,
    ⟨some 10, .alloc 37, none⟩,
    ⟨none, .store 29 (.tmp 9) (.tmp 28), none⟩,
    ⟨none, .store 37 (.tmp 10) (.tmp 29), none⟩,
    ⟨some 11, .assign (.tmp 30), none⟩]) (.seq (.reg [⟨some 31, .move (.tmp 8), none⟩,
    ⟨some 32, .binOp .eql 31 (.tmp 31) (.const (.int .i64 0)) 31, none⟩,
    ⟨some 33, .move (.tmp 32), none⟩,
    ⟨some 34, .move (.tmp 11), some (33, true)⟩,
    ⟨some 35, .binOp .eql 31 (.tmp 34) (.const (.int .i64 0)) 31, some (33, true)⟩,
    ⟨some 36, .pick (.tmp 33) (.tmp 35) (.const (.bool false)), none⟩,
    ⟨some 37, .move (.tmp 36), none⟩,
    ⟨some 38, .fieldAddr 37 (.tmp 7) 2, some (37, true)⟩,
    ⟨some 39, .load 3 (.tmp 38), some (37, true)⟩,
    ⟨some 40, .fieldAddr 37 (.tmp 10) 3, some (37, true)⟩,
    ⟨some 41, .load 26 (.tmp 40), some (37, true)⟩,
    ⟨some 42, .call { callee := .builtin .len, args := #[.tmp 41], argTypes := #[26] }, some (37, true)⟩,
    ⟨some 43, .binOp .eql 3 (.tmp 39) (.tmp 42) 3, some (37, true)⟩,
    ⟨some 44, .pick (.tmp 37) (.tmp 43) (.const (.bool false)), none⟩,
    ⟨some 45, .move (.tmp 44), none⟩,
    ⟨some 46, .fieldAddr 37 (.tmp 7) 2, some (45, true)⟩,
    ⟨some 47, .load 3 (.tmp 46), some (45, true)⟩,
    ⟨some 48, .binOp .gtr 3 (.tmp 47) (.const (.int .i64 0)) 3, some (45, true)⟩,
    ⟨some 49, .pick (.tmp 45) (.tmp 48) (.const (.bool false)), none⟩,
    ⟨some 50, .move (.tmp 49), none⟩,
    ⟨some 51, .load 29 (.tmp 5), some (50, true)⟩,
    ⟨some 52, .load 29 (.tmp 6), some (50, true)⟩,
    ⟨some 53, .call { callee := .value (.func 25), args := #[.tmp 51, .tmp 52], argTypes := #[29, 29] }, some (50, true)⟩,
    ⟨some 54, .pick (.tmp 50) (.tmp 53) (.const (.bool false)), none⟩,
    ⟨some 55, .move (.tmp 54), none⟩,
    ⟨some 56, .load 29 (.tmp 5), some (55, true)⟩,
    ⟨some 57, .load 29 (.tmp 9), some (55, true)⟩,
    ⟨some 58, .call { callee := .value (.func 25), args := #[.tmp 56, .tmp 57], argTypes := #[29, 29] }, some (55, true)⟩,
    ⟨some 59, .pick (.tmp 55) (.tmp 58) (.const (.bool false)), none⟩,
    ⟨some 4, .assign (.tmp 59), none⟩]) .ret))))
theorem rs_rostrumkeep_LenAll : Try.f15.results.toList = [.tmp 4] := rfl
theorem ok_rostrumkeep_LenAll : Try.f15.body.bind (comp Try.f15.ntmps) = some ac_rostrumkeep_LenAll := by kernel_rfl
def ac_rostrumkeep_TypeTold : ACode := .seq (.reg [⟨some 5, .box 24 (.tmp 2), none⟩,
    ⟨some 6, .assign (.const (.bool false)), none⟩]) (.seq (.reg [⟨some 14, .move (.tmp 0), none⟩,
    ⟨some 15, .move (.tmp 1), none⟩,
    ⟨some 16, .call { callee := .value (.func 21), args := #[.tmp 14, .tmp 15], argTypes := #[3, 22] }, none⟩,
    ⟨some 7, .alloc 29, none⟩,
    ⟨none, .store 29 (.tmp 7) (.tmp 16), none⟩]) (.seq (.reg [⟨some 17, .load 24 (.tmp 5), none⟩,
    ⟨some 18, .call { callee := .value (.func 23), args := #[.tmp 17], argTypes := #[24] }, none⟩,
    ⟨some 8, .alloc 34, none⟩,
    ⟨none, .store 34 (.tmp 8) (.tmp 18), none⟩]) (.seq (.seq (.reg [⟨some 19, .fieldAddr 34 (.tmp 8) 0, none⟩,
    ⟨some 20, .load 3 (.tmp 19), none⟩,
    ⟨some 21, .binOp .gtr 3 (.tmp 20) (.const (.int .i64 18)) 3, none⟩,
    ⟨some 22, .move (.tmp 21), none⟩,
    ⟨some 23, .fieldAddr 29 (.tmp 7) 0, some (22, false)⟩,
    ⟨some 24, .load 3 (.tmp 23), some (22, false)⟩,
    ⟨some 25, .binOp .eql 3 (.tmp 24) (.const (.int .i64 0)) 3, some (22, false)⟩,
    ⟨some 26, .pick (.tmp 22) (.const (.bool true)) (.tmp 25), none⟩]) (.cond (.tmp 26) (.seq (.reg [⟨some 27, .fieldAddr 29 (.tmp 7) 0, none⟩,
    ⟨some 28, .load 3 (.tmp 27), none⟩,
    ⟨some 29, .binOp .neq 3 (.tmp 28) (.const (.int .i64 0)) 3, none⟩,
    ⟨some 6, .assign (.tmp 29), none⟩]) .ret) .skip)) (.seq (.reg [⟨some 31, .load 29 (.tmp 7), none⟩,
    ⟨some 32, .load 34 (.tmp 8), none⟩,
    ⟨some 33, .call { callee := .value (.func 24), args := #[.tmp 31, .tmp 32], argTypes := #[29, 34] }, none⟩,
    ⟨some 30, .move (.tmp 33), none⟩,
    ⟨some 34, .extract (.tmp 30) 0, none⟩,
    ⟨some 35, .extract (.tmp 30) 1, none⟩,
    ⟨some 36, .extract (.tmp 30) 2, none⟩,
    ⟨some 9, .alloc 29, none⟩,
    ⟨some 10, .alloc 37, none⟩,
    ⟨none, .store 29 (.tmp 9) (.tmp 34), none⟩,
    ⟨none, .store 37 (.tmp 10) (.tmp 35), none⟩,
    ⟨some 11, .assign (.tmp 36), none⟩]) (.seq (.reg [⟨some 37, .fieldAddr 34 (.tmp 8) 0, none⟩,
    ⟨some 38, .load 3 (.tmp 37), none⟩,
    ⟨some 39, .call { callee := .value (.func 31), args := #[.tmp 38], argTypes := #[3] }, none⟩,
    ⟨some 12, .assign (.tmp 39), none⟩]) (.seq (.reg [⟨some 40, .move (.tmp 12), none⟩,
    ⟨some 41, .binOp .neq 3 (.tmp 40) (.const (.int .i64 0)) 3, none⟩,
    ⟨some 42, .move (.tmp 41), none⟩,
    ⟨some 43, .move (.tmp 12), some (42, true)⟩,
    ⟨some 44, .fieldAddr 29 (.tmp 7) 0, some (42, true)⟩,
    ⟨some 45, .load 3 (.tmp 44), some (42, true)⟩,
    ⟨some 46, .binOp .neq 3 (.tmp 43) (.tmp 45) 3, some (42, true)⟩,
    ⟨some 47, .pick (.tmp 42) (.tmp 46) (.const (.bool false)), none⟩,
    ⟨some 48, .move (.tmp 47), none⟩,
    ⟨some 49, .fieldAddr 34 (.tmp 8) 0, some (48, false)⟩,
    ⟨some 50, .load 3 (.tmp 49), some (48, false)⟩,
    ⟨some 51, .binOp .eql 3 (.tmp 50) (.const (.int .i64 17)) 3, some (48, false)⟩,
    ⟨some 52, .move (.tmp 51), some (48, false)⟩,
    ⟨some 53, .fieldAddr 34 (.tmp 8) 0, some (52, false)⟩,
    ⟨some 54, .load 3 (.tmp 53), some (52, false)⟩,
    ⟨some 55, .binOp .eql 3 (.tmp 54) (.const (.int .i64 18)) 3, some (52, false)⟩,
    ⟨some 56, .pick (.tmp 52) (.const (.bool true)) (.tmp 55), some (48, false)⟩,
    ⟨some 57, .move (.tmp 56), some (48, false)⟩,
    ⟨some 58, .fieldAddr 29 (.tmp 7) 0, some (57, true)⟩,
    ⟨some 59, .load 3 (.tmp 58), some (57, true)⟩,
    ⟨some 60, .binOp .leq 3 (.tmp 59) (.const (.int .i64 2)) 3, some (57, true)⟩,
    ⟨some 61, .pick (.tmp 57) (.tmp 60) (.const (.bool false)), some (48, false)⟩,
    ⟨some 62, .pick (.tmp 48) (.const (.bool true)) (.tmp 61), none⟩,
    ⟨some 13, .assign (.tmp 62), none⟩]) (.seq (.seq (.reg [⟨some 63, .move (.tmp 11), none⟩,
    ⟨some 64, .binOp .neq 31 (.tmp 63) (.const (.int .i64 0)) 31, none⟩,
    ⟨some 65, .move (.tmp 64), none⟩,
    ⟨some 66, .move (.tmp 13), some (65, false)⟩,
    ⟨some 67, .fieldAddr 37 (.tmp 10) 0, some (65, false)⟩,
    ⟨some 68, .load 31 (.tmp 67), some (65, false)⟩,
    ⟨some 69, .binOp .eql 31 (.tmp 68) (.const (.int .i64 4)) 31, some (65, false)⟩,
    ⟨some 70, .binOp .neq 4 (.tmp 66) (.tmp 69) 4, some (65, false)⟩,
    ⟨some 71, .pick (.tmp 65) (.const (.bool true)) (.tmp 70), none⟩]) (.cond (.tmp 71) (.seq (.reg [⟨some 6, .assign (.const (.bool false)), none⟩]) .ret) .skip)) (.seq (.reg [⟨some 72, .fieldAddr 37 (.tmp 10) 0, none⟩,
    ⟨some 73, .load 31 (.tmp 72), none⟩,
    ⟨some 74, .binOp .eql 31 (.tmp 73) (.const (.int .i64 0)) 31, none⟩,
    ⟨some 75, .move (.tmp 74), none⟩,
    ⟨some 76, .load 29 (.tmp 7), some (75, false)⟩,
    ⟨some 77, .load 29 (.tmp 9), some (75, false)⟩,
    ⟨some 78, .call { callee := .value (.func 25), args := #[.tmp 76, .tmp 77], argTypes := #[29, 29] }, some (75, false)⟩,
    ⟨some 79, .move (.tmp 78), some (75, false)⟩,
    ⟨some 80, .fieldAddr 37 (.tmp 10) 1, some (79, true)⟩,
    ⟨some 81, .load 9 (.tmp 80), some (79, true)⟩,
    ⟨some 82, .binOp .eql 9 (.tmp 81) (.const (.string { data := #[] })) 9, some (79, true)⟩,
    ⟨some 83, .pick (.tmp 79) (.tmp 82) (.const (.bool false)), some (75, false)⟩,
    ⟨some 84, .move (.tmp 83), some (75, false)⟩,
    ⟨some 85, .fieldAddr 37 (.tmp 10) 2, some (84, true)⟩,
    ⟨some 86, .load 3 (.tmp 85), some (84, true)⟩,
    ⟨some 87, .binOp .eql 3 (.tmp 86) (.const (.int .i64 0)) 3, some (84, true)⟩,
    ⟨some 88, .pick (.tmp 84) (.tmp 87) (.const (.bool false)), some (75, false)⟩,
    ⟨some 89, .move (.tmp 88), some (75, false)⟩,
    ⟨some 90, .fieldAddr 37 (.tmp 10) 3, some (89, true)⟩,
    ⟨some 91, .load 26 (.tmp 90), some (89, true)⟩,
    ⟨some 92, .call { callee := .builtin .len, args := #[.tmp 91], argTypes := #[26] }, some (89, true)⟩,
    ⟨some 93, .binOp .eql 3 (.tmp 92) (.const (.int .i64 0)) 3, some (89, true)⟩,
    ⟨some 94, .pick (.tmp 89) (.tmp 93) (.const (.bool false)), some (75, false)⟩,
    ⟨some 95, .pick (.tmp 75) (.const (.bool true)) (.tmp 94), none⟩,
    ⟨some 6, .assign (.tmp 95), none⟩]) .ret))))))))
theorem rs_rostrumkeep_TypeTold : Try.f11.results.toList = [.tmp 6] := rfl
theorem ok_rostrumkeep_TypeTold : Try.f11.body.bind (comp Try.f11.ntmps) = some ac_rostrumkeep_TypeTold := by kernel_rfl
theorem pw_nextS {α : Type} {R : α → α → Prop} {l : List α} (h : l.Pairwise R) {i : Nat} {x y : α} (hx : l[i]? = some x) (hy : l[i + 1]? = some y) : R x y := by
  obtain ⟨a, rfl⟩ := List.getElem?_eq_some_iff.1 hx
  obtain ⟨b, rfl⟩ := List.getElem?_eq_some_iff.1 hy
  exact List.pairwise_iff_getElem.1 h i (i + 1) a b (by omega)
theorem doV_big {v : Val} {c : Cmd} (ok : OkV v) (hc : checkC c = 0) (hk : 18 < c.kind) : DoV v c = (zeroV, toldR 0, 3) := by
  have h := checkV_iff.2 ok
  have hn := none_kind (kind_ok h).1
  unfold DoV
  rw [hn]
  simp only [Bool.false_eq_true, if_false, false_and, true_and]
  rw [if_neg (by rw [h]; simp), if_neg (by rw [hc]; simp), if_pos hk]
theorem valueMay_c (kind : Int) (l : List Raw) (r : Raw) (hk : i64 kind) (hl : ∀ r ∈ l, r.Ok) (hn : (l.length : Int) * 48 ≤ 140737488351232) (hr : r.Ok) : PCall Try.prog G 3 [iV kind, .one (.v (.sl (l.map Raw.row))), .agg [iC r.kind, iC r.key, iC r.field, iC r.n, sC r.text]] (bV true) := by
  have hf := full_c (G := G) kind l hk hl hn
  obtain ⟨ok, _⟩ := fullV_ok kind l hl
  have hc := cmdR_ok hr
  have hcm := commandR_c (G := G) r hr
  obtain ⟨k1, k2⟩ := cmdR_kind r
  generalize cmdR r = c at *
  generalize fullV kind l = v at *
  have hch := checkV_c (G := G) v ok.small
  rw [checkV_iff.2 ok] at hch
  have hdo := Do_c (G := G) v c ok.small
  by_cases hb : 18 < c.kind
  · rw [doV_big ok hc hb] at hdo
    obtain ⟨kk, key, f, tx, cn⟩ := c
    have q1 : decide (18 < kk) = true := by simpa using hb
    simp only [DoA, Cmd.c, Rep.c, Val.c, toldR, zeroV, List.map_nil] at hf hch hcm hdo
    refine pcall mixed Try.func3 ok_rostrumkeep_ValueMay rs_rostrumkeep_ValueMay (by simp [Try.f3]) ?_
    unfold ac_rostrumkeep_ValueMay
    repeat' (first | (with_reducible first | refine Cnd.intro (fun h => ?_) (fun h => ?_) | refine And.intro ?_ ?_ | refine Wk.refl ?_ | exact Weak.refl _ _ | refine weak_auto ?_ | apply awp_join) | ((try with_reducible refine CallZ.l ?_); with_reducible refine qcf (by first | exact hf | exact hch | exact hcm | exact hdo) ?_ ?_) | ((try with_reducible refine CallZ.l ?_); with_reducible refine qcn (by first | exact qkc hf (by with_unfolding_all rfl) | exact qkc hch (by with_unfolding_all rfl) | exact qkc hcm (by with_unfolding_all rfl) | exact qkc hdo (by with_unfolding_all rfl)) ?_) | ((with_reducible refine qcz (by first | exact qkz hf (by with_unfolding_all rfl) | exact qkz hch (by with_unfolding_all rfl) | exact qkz hcm (by with_unfolding_all rfl) | exact qkz hdo (by with_unfolding_all rfl)) ?_); intro zh1 zq1; (try simp -dsimp [go_sem] at zq1); obtain ⟨rfl⟩ := zq1) | (with_reducible refine CallZ.z ?_) | simp -dsimp [go_sem, q1])
  · obtain ⟨e0, hvk⟩ := DoV_vk (.inl ok) hc (by omega)
    obtain ⟨q, hq⟩ : ∃ q, DoV v c = q := ⟨_, rfl⟩
    rw [hq] at hdo e0 hvk
    obtain ⟨w, rp, e⟩ := q
    simp only at e0 hvk
    subst e0
    have hz := sameValue_c (G := G) zeroV zeroV zeroV_small
    rcases hvk with h | h
    · have hwc := checkV_c (G := G) w h.small
      rw [checkV_iff.2 h] at hwc
      have q2 : (w.kind == 0) = false := by have := h.kind.1; simp; omega
      obtain ⟨kk, key, f, tx, cn⟩ := c
      have q1 : decide (18 < kk) = false := by simpa using hb
      simp only [DoA, Cmd.c, Rep.c, Val.c, zeroV, List.map_nil] at hf hch hcm hdo hwc
      refine pcall mixed Try.func3 ok_rostrumkeep_ValueMay rs_rostrumkeep_ValueMay (by simp [Try.f3]) ?_
      unfold ac_rostrumkeep_ValueMay
      repeat' (first | (with_reducible first | refine Cnd.intro (fun h => ?_) (fun h => ?_) | refine And.intro ?_ ?_ | refine Wk.refl ?_ | exact Weak.refl _ _ | refine weak_auto ?_ | apply awp_join) | ((try with_reducible refine CallZ.l ?_); with_reducible refine qcf (by first | exact hf | exact hch | exact hcm | exact hdo | exact hwc) ?_ ?_) | ((try with_reducible refine CallZ.l ?_); with_reducible refine qcn (by first | exact qkc hf (by with_unfolding_all rfl) | exact qkc hch (by with_unfolding_all rfl) | exact qkc hcm (by with_unfolding_all rfl) | exact qkc hdo (by with_unfolding_all rfl) | exact qkc hwc (by with_unfolding_all rfl)) ?_) | ((with_reducible refine qcz (by first | exact qkz hf (by with_unfolding_all rfl) | exact qkz hch (by with_unfolding_all rfl) | exact qkz hcm (by with_unfolding_all rfl) | exact qkz hdo (by with_unfolding_all rfl) | exact qkz hwc (by with_unfolding_all rfl)) ?_); intro zh1 zq1; (try simp -dsimp [go_sem] at zq1); obtain ⟨rfl⟩ := zq1) | (with_reducible refine CallZ.z ?_) | simp -dsimp [go_sem, q1, q2])
    · subst h
      obtain ⟨kk, key, f, tx, cn⟩ := c
      have q1 : decide (18 < kk) = false := by simpa using hb
      simp only [DoA, Cmd.c, Rep.c, Val.c, zeroV, decide_true, List.map_nil] at hf hch hcm hdo hz
      refine pcall mixed Try.func3 ok_rostrumkeep_ValueMay rs_rostrumkeep_ValueMay (by simp [Try.f3]) ?_
      unfold ac_rostrumkeep_ValueMay
      repeat' (first | (with_reducible first | refine Cnd.intro (fun h => ?_) (fun h => ?_) | refine And.intro ?_ ?_ | refine Wk.refl ?_ | exact Weak.refl _ _ | refine weak_auto ?_ | apply awp_join) | ((try with_reducible refine CallZ.l ?_); with_reducible refine qcf (by first | exact hf | exact hch | exact hcm | exact hdo | exact hz) ?_ ?_) | ((try with_reducible refine CallZ.l ?_); with_reducible refine qcn (by first | exact qkc hf (by with_unfolding_all rfl) | exact qkc hch (by with_unfolding_all rfl) | exact qkc hcm (by with_unfolding_all rfl) | exact qkc hdo (by with_unfolding_all rfl) | exact qkc hz (by with_unfolding_all rfl)) ?_) | ((with_reducible refine qcz (by first | exact qkz hf (by with_unfolding_all rfl) | exact qkz hch (by with_unfolding_all rfl) | exact qkz hcm (by with_unfolding_all rfl) | exact qkz hdo (by with_unfolding_all rfl) | exact qkz hz (by with_unfolding_all rfl)) ?_); intro zh1 zq1; (try simp -dsimp [go_sem] at zq1); obtain ⟨rfl⟩ := zq1) | (with_reducible refine CallZ.z ?_) | simp -dsimp [go_sem, q1])
theorem full2_kind (kind : Int) (l : List Raw) (hl : ∀ r ∈ l, r.Ok) : OkV (fullV (2 + pk kind 4) l) ∧ (fullV (2 + pk kind 4) l).kind = 3 + pk kind 4 := by
  obtain ⟨h1, h2⟩ := fullV_ok (2 + pk kind 4) l hl
  have := pk_range (n := kind) (m := 4) (by omega)
  rw [kindM_maker, pk_small (k := 2 + pk kind 4) (by omega) (by omega)] at h2
  exact ⟨h1, by omega⟩
def lenC : Cmd := ⟨17, kS, eS, eS, 0⟩
def allC : Cmd := ⟨18, kS, eS, eS, 0⟩
theorem lenC_ok : checkC lenC = 0 := cmd_form (by omega) (by omega) (.inr ⟨by omega, rfl⟩) (.inr rfl) (.inr rfl)
theorem allC_ok : checkC allC = 0 := cmd_form (by omega) (by omega) (.inr ⟨by omega, rfl⟩) (.inr rfl) (.inr rfl)
theorem len_done {v : Val} (ok : OkV v) (h3 : 3 ≤ v.kind) : DoV v lenC = (v, toldR v.els, 0) := by
  rw [DoV_go (checkV_iff.2 ok) lenC_ok (by show (17 : Int) ≤ 18; omega) (by
    rintro (h | h)
    · exact h.1 rfl
    · omega)]
  have : doV v lenC = (v, toldR v.els) := by unfold doV; simp [lenC]
  rw [this]
  exact DoEnd_some rfl (fun h => by have := h.2; have := (ok.els h3).1; simp only at *; omega)
theorem all_done {v : Val} (ok : OkV v) (h3 : 3 ≤ v.kind) : DoV v allC = (v, ⟨0, ⟨#[]⟩, 0, allV v⟩, 0) := by
  rw [DoV_go (checkV_iff.2 ok) allC_ok (by show (18 : Int) ≤ 18; omega) (by
    rintro (h | h)
    · exact h.1 rfl
    · omega)]
  have : doV v allC = (v, ⟨0, ⟨#[]⟩, 0, allV v⟩) := by unfold doV; simp [allC]
  rw [this]
  exact DoEnd_some rfl (fun h => by have := h.2; have := (ok.els h3).1; simp only at *; omega)
theorem allV_len (v : Val) : ((allV v).length : Int) = v.els := by unfold allV Val.els; simp; omega
theorem lenAll_c (kind : Int) (l : List Raw) (hk : i64 kind) (hl : ∀ r ∈ l, r.Ok) (hn : (l.length : Int) * 48 ≤ 140737488351232) : PCall Try.prog G 15 [iV kind, .one (.v (.sl (l.map Raw.row)))] (bV true) := by
  have hp := pk_range (n := kind) (m := 4) (by omega)
  have hpk := picked_c (G := G) kind 4 hk (by omega)
  have hf := full_c (G := G) (2 + pk kind 4) l (by unfold i64; omega) hl hn
  obtain ⟨ok, hkd⟩ := full2_kind kind l hl
  have w1 : IntKind.i64.wrap (2 + pk kind 4) = 2 + pk kind 4 := IntWalk.i64_in _ (by omega)
  generalize pk kind 4 = p at *
  generalize fullV (2 + p) l = v at *
  have hs := sameValue_c (G := G) v v ok.small
  have d1 := Do_c (G := G) v lenC ok.small
  have d2 := Do_c (G := G) v allC ok.small
  rw [len_done ok (by omega), ← allV_len] at d1
  rw [all_done ok (by omega)] at d2
  have he := (ok.els (by omega)).1
  rw [← allV_len] at he
  generalize allV v = al at *
  have q1 : decide (0 < al.length) = true := by simp; omega
  simp only [DoA, Cmd.c, Rep.c, Val.c, toldR, lenC, allC, decide_true, List.map_nil] at hf hs d1 d2
  refine pcall mixed Try.func15 ok_rostrumkeep_LenAll rs_rostrumkeep_LenAll (by simp [Try.f15]) ?_
  unfold ac_rostrumkeep_LenAll
  repeat' (first | (with_reducible first | refine Cnd.intro (fun h => ?_) (fun h => ?_) | refine And.intro ?_ ?_ | refine Wk.refl ?_ | exact Weak.refl _ _ | refine weak_auto ?_ | apply awp_join) | ((try with_reducible refine CallZ.l ?_); with_reducible refine qcf (by first | exact hpk | exact hf | exact d1 | exact d2 | exact hs) ?_ ?_) | ((try with_reducible refine CallZ.l ?_); with_reducible refine qcn (by first | exact qkc hpk (by with_unfolding_all rfl) | exact qkc hf (by with_unfolding_all rfl) | exact qkc d1 (by with_unfolding_all rfl) | exact qkc d2 (by with_unfolding_all rfl) | exact qkc hs (by with_unfolding_all rfl)) ?_) | ((with_reducible refine qcz (by first | exact qkz hpk (by with_unfolding_all rfl) | exact qkz hf (by with_unfolding_all rfl) | exact qkz d1 (by with_unfolding_all rfl) | exact qkz d2 (by with_unfolding_all rfl) | exact qkz hs (by with_unfolding_all rfl)) ?_); intro zh1 zq1; (try simp -dsimp [go_sem] at zq1); obtain ⟨rfl⟩ := zq1) | (with_reducible refine CallZ.z ?_) | simp -dsimp [go_sem, w1, q1])
/-- What is refused leaves all as it was, and says no more. -/
def Good (r : Rep) : Prop := r.code = 0 ∨ ∃ e, r = failR e ∧ e ≠ 0 ∧ e ≠ 4
theorem good0 {r : Rep} (h : r.code = 0) : Good r := .inl h
theorem good5 : Good (failR 5) := .inr ⟨5, rfl, by decide, by decide⟩
theorem good6 : Good (failR 6) := .inr ⟨6, rfl, by decide, by decide⟩
theorem good7 : Good (failR 7) := .inr ⟨7, rfl, by decide, by decide⟩
theorem hashV_good (l : List Pr) (c : Cmd) : Good (hashV l c).2 := by
  unfold hashV
  simp only
  repeat' split
  all_goals first | exact good5 | exact good6 | exact good0 rfl
theorem listV_good (l : List ByteArray) (c : Cmd) : Good (listV l c).2 := by
  unfold listV
  repeat' split
  all_goals first | exact good6 | exact good0 rfl
theorem setV_good (l : List ByteArray) (c : Cmd) : Good (setV l c).2 := by
  unfold setV
  simp only
  repeat' split
  all_goals first | exact good6 | exact good0 rfl
theorem ranksV_good (l : List Sc) (c : Cmd) : Good (ranksV l c).2 := by
  unfold ranksV
  simp only
  repeat' split
  all_goals first | exact good5 | exact good6 | exact good0 rfl
theorem doV_code {v : Val} {c : Cmd} : (doV v c).2.code = 0 ∨ ∃ e, (doV v c).2 = failR e ∧ e ≠ 0 ∧ e ≠ 4 := by
  change Good (doV v c).2
  unfold doV
  repeat' split
  all_goals first | exact hashV_good _ _ | exact listV_good _ _ | exact setV_good _ _ | exact ranksV_good _ _ | exact good7 | exact good0 rfl
theorem DoEnd_code {v : Val} {q : Val × Rep} (h : q.2.code = 0 ∨ ∃ e, q.2 = failR e ∧ e ≠ 0 ∧ e ≠ 4) : (DoEnd v q).2.1.code = 0 ∨ ∃ e, DoEnd v q = (v, failR e, 0) ∧ e ≠ 0 ∧ e ≠ 4 := by
  rcases h with h | ⟨e, h1, h2, h3⟩
  · left
    unfold DoEnd
    rw [if_neg (by rw [h]; simp)]
    split <;> exact h
  · right
    refine ⟨e, ?_, h2, h3⟩
    rw [DoEnd_fail (by rw [h1]; exact h2), h1]
theorem kindOf2_k (k : Int) (h1 : 1 ≤ k) (h2 : k ≤ 18) : PCall Try.prog G 31 [iV k] (iV (kindOfC k)) := by
  have : k = 1 ∨ k = 2 ∨ k = 3 ∨ (4 ≤ k ∧ k ≤ 6) ∨ (7 ≤ k ∧ k ≤ 10) ∨ (11 ≤ k ∧ k ≤ 13) ∨ (14 ≤ k ∧ k ≤ 16) ∨ 17 ≤ k := by omega
  have e : kindOfC k = kindOfC k := rfl
  refine pcall mixed Try.func31 ok_rostrumkeep_kindOf rs_rostrumkeep_kindOf (by simp [Try.f31]) ?_
  unfold ac_rostrumkeep_kindOf
  unfold kindOfC
  repeat' (first | (with_reducible first | refine Cnd.intro (fun h => ?_) (fun h => ?_) | refine And.intro ?_ ?_ | refine Wk.refl ?_ | exact Weak.refl _ _ | refine weak_auto ?_ | apply awp_join) | (with_reducible refine CallZ.z ?_) | simp -dsimp [go_sem])
  all_goals (simp at *; try omega)
theorem typeTold_c (kind : Int) (l : List Raw) (r : Raw) (hk : i64 kind) (hl : ∀ r ∈ l, r.Ok) (hn : (l.length : Int) * 48 ≤ 140737488351232) (hr : r.Ok) : PCall Try.prog G 11 [iV kind, .one (.v (.sl (l.map Raw.row))), .agg [iC r.kind, iC r.key, iC r.field, iC r.n, sC r.text]] (bV true) := by
  have hf := full_c (G := G) kind l hk hl hn
  obtain ⟨ok, _⟩ := fullV_ok kind l hl
  have hc := cmdR_ok hr
  have hcm := commandR_c (G := G) r hr
  obtain ⟨k1, k2⟩ := cmdR_kind r
  generalize cmdR r = c at *
  generalize fullV kind l = v at *
  have hk0 := ok.kind
  have q2 : (v.kind == 0) = false := by simp; omega
  have q3 : (v.kind != 0) = true := by simp; omega
  by_cases hb : 18 < c.kind
  · obtain ⟨kk, key, f, tx, cn⟩ := c
    have q1 : decide (18 < kk) = true := by simpa using hb
    simp only [Cmd.c, Val.c] at hf hcm
    refine pcall mixed Try.func11 ok_rostrumkeep_TypeTold rs_rostrumkeep_TypeTold (by simp [Try.f11]) ?_
    unfold ac_rostrumkeep_TypeTold
    repeat' (first | (with_reducible first | refine Cnd.intro (fun h => ?_) (fun h => ?_) | refine And.intro ?_ ?_ | refine Wk.refl ?_ | exact Weak.refl _ _ | refine weak_auto ?_ | apply awp_join) | ((try with_reducible refine CallZ.l ?_); with_reducible refine qcf (by first | exact hf | exact hcm) ?_ ?_) | ((try with_reducible refine CallZ.l ?_); with_reducible refine qcn (by first | exact qkc hf (by with_unfolding_all rfl) | exact qkc hcm (by with_unfolding_all rfl)) ?_) | ((with_reducible refine qcz (by first | exact qkz hf (by with_unfolding_all rfl) | exact qkz hcm (by with_unfolding_all rfl)) ?_); intro zh1 zq1; (try simp -dsimp [go_sem] at zq1); obtain ⟨rfl⟩ := zq1) | (with_reducible refine CallZ.z ?_) | simp -dsimp [go_sem, q1, q2, q3])
  have hdo := Do_c (G := G) v c ok.small
  have hs := sameValue_c (G := G) v v ok.small
  have hko := kindOf2_k (G := G) c.kind k1 (by omega)
  by_cases hm : (kindOfC c.kind ≠ 0 ∧ kindOfC c.kind ≠ v.kind) ∨ (17 ≤ c.kind ∧ v.kind < 3)
  · rw [DoV_type (checkV_iff.2 ok) hc (by omega) hm] at hdo
    generalize kindOfC c.kind = K at *
    obtain ⟨kk, key, f, tx, cn⟩ := c
    have q1 : decide (18 < kk) = false := by simpa using hb
    simp only [DoA, Cmd.c, Rep.c, Val.c, failR, decide_true, List.map_nil] at hf hcm hdo hs hko hm hb k1
    obtain ⟨vk, vt, vn, vp, vi, vs⟩ := v
    simp only at q2 q3 hm hf hdo hs hk0
    refine pcall mixed Try.func11 ok_rostrumkeep_TypeTold rs_rostrumkeep_TypeTold (by simp [Try.f11]) ?_
    unfold ac_rostrumkeep_TypeTold
    repeat' (first | (with_reducible first | refine Cnd.intro (fun h => ?_) (fun h => ?_) | refine And.intro ?_ ?_ | refine Wk.refl ?_ | exact Weak.refl _ _ | refine weak_auto ?_ | apply awp_join) | ((try with_reducible refine CallZ.l ?_); with_reducible refine qcf (by first | exact hf | exact hcm | exact hdo | exact hs | exact hko) ?_ ?_) | ((try with_reducible refine CallZ.l ?_); with_reducible refine qcn (by first | exact qkc hf (by with_unfolding_all rfl) | exact qkc hcm (by with_unfolding_all rfl) | exact qkc hdo (by with_unfolding_all rfl) | exact qkc hs (by with_unfolding_all rfl) | exact qkc hko (by with_unfolding_all rfl)) ?_) | ((with_reducible refine qcz (by first | exact qkz hf (by with_unfolding_all rfl) | exact qkz hcm (by with_unfolding_all rfl) | exact qkz hdo (by with_unfolding_all rfl) | exact qkz hs (by with_unfolding_all rfl) | exact qkz hko (by with_unfolding_all rfl)) ?_); intro zh1 zq1; (try simp -dsimp [go_sem] at zq1); obtain ⟨rfl⟩ := zq1) | (with_reducible refine CallZ.z ?_) | simp -dsimp [go_sem, q1, q2, q3])
    all_goals (clear hf hcm hdo hs hko; exfalso; simp at *; omega)
  · rw [DoV_go (checkV_iff.2 ok) hc (by omega) hm] at hdo
    rcases DoEnd_code (v := v) (q := doV v c) doV_code with h | ⟨e, h1, h2, h3⟩
    · obtain ⟨q, hq⟩ : ∃ q, DoEnd v (doV v c) = q := ⟨_, rfl⟩
      have he : q.2.2 = 0 := by
        rw [← hq]; unfold DoEnd; repeat' split
        all_goals rfl
      rw [hq] at hdo h
      obtain ⟨w, ⟨rc, rt, rn, rl⟩, e⟩ := q
      simp only at h he
      subst h; subst he
      clear hq
      generalize kindOfC c.kind = K at *
      obtain ⟨kk, key, f, tx, cn⟩ := c
      have q1 : decide (18 < kk) = false := by simpa using hb
      simp only [DoA, Cmd.c, Rep.c, Val.c, List.map_nil] at hf hcm hdo hko hm hb k1
      obtain ⟨vk, vt, vn, vp, vi, vs⟩ := v
      simp only at q2 q3 hm hf hk0
      refine pcall mixed Try.func11 ok_rostrumkeep_TypeTold rs_rostrumkeep_TypeTold (by simp [Try.f11]) ?_
      unfold ac_rostrumkeep_TypeTold
      repeat' (first | (with_reducible first | refine Cnd.intro (fun h => ?_) (fun h => ?_) | refine And.intro ?_ ?_ | refine Wk.refl ?_ | exact Weak.refl _ _ | refine weak_auto ?_ | apply awp_join) | ((try with_reducible refine CallZ.l ?_); with_reducible refine qcf (by first | exact hf | exact hcm | exact hdo | exact hko) ?_ ?_) | ((try with_reducible refine CallZ.l ?_); with_reducible refine qcn (by first | exact qkc hf (by with_unfolding_all rfl) | exact qkc hcm (by with_unfolding_all rfl) | exact qkc hdo (by with_unfolding_all rfl) | exact qkc hko (by with_unfolding_all rfl)) ?_) | ((with_reducible refine qcz (by first | exact qkz hf (by with_unfolding_all rfl) | exact qkz hcm (by with_unfolding_all rfl) | exact qkz hdo (by with_unfolding_all rfl) | exact qkz hko (by with_unfolding_all rfl)) ?_); intro zh1 zq1; (try simp -dsimp [go_sem] at zq1); obtain ⟨rfl⟩ := zq1) | (with_reducible refine CallZ.z ?_) | simp -dsimp [go_sem, q1, q2, q3])
      all_goals (clear hf hcm hdo hs hko; exfalso; simp at *; omega)
    · rw [h1] at hdo
      have q4 : (e == 4) = false := by simpa using h3
      have q5 : (e == 0) = false := by simpa using h2
      generalize kindOfC c.kind = K at *
      obtain ⟨kk, key, f, tx, cn⟩ := c
      have q1 : decide (18 < kk) = false := by simpa using hb
      simp only [DoA, Cmd.c, Rep.c, Val.c, failR, decide_true, List.map_nil] at hf hcm hdo hs hko hm hb k1
      obtain ⟨vk, vt, vn, vp, vi, vs⟩ := v
      simp only at q2 q3 hm hf hs hk0
      refine pcall mixed Try.func11 ok_rostrumkeep_TypeTold rs_rostrumkeep_TypeTold (by simp [Try.f11]) ?_
      unfold ac_rostrumkeep_TypeTold
      repeat' (first | (with_reducible first | refine Cnd.intro (fun h => ?_) (fun h => ?_) | refine And.intro ?_ ?_ | refine Wk.refl ?_ | exact Weak.refl _ _ | refine weak_auto ?_ | apply awp_join) | ((try with_reducible refine CallZ.l ?_); with_reducible refine qcf (by first | exact hf | exact hcm | exact hdo | exact hs | exact hko) ?_ ?_) | ((try with_reducible refine CallZ.l ?_); with_reducible refine qcn (by first | exact qkc hf (by with_unfolding_all rfl) | exact qkc hcm (by with_unfolding_all rfl) | exact qkc hdo (by with_unfolding_all rfl) | exact qkc hs (by with_unfolding_all rfl) | exact qkc hko (by with_unfolding_all rfl)) ?_) | ((with_reducible refine qcz (by first | exact qkz hf (by with_unfolding_all rfl) | exact qkz hcm (by with_unfolding_all rfl) | exact qkz hdo (by with_unfolding_all rfl) | exact qkz hs (by with_unfolding_all rfl) | exact qkz hko (by with_unfolding_all rfl)) ?_); intro zh1 zq1; (try simp -dsimp [go_sem] at zq1); obtain ⟨rfl⟩ := zq1) | (with_reducible refine CallZ.z ?_) | simp -dsimp [go_sem, q1, q2, q3, q4, q5])
      all_goals (clear hf hcm hdo hs hko; exfalso; simp at *; omega)
end Go.Proofs.Ytacdeehkdepiaaa
