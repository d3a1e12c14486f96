/- The function HashModel answers true. -/
import Derived.Test.YtcfpphadlgbfdaaL12
import Derived.Test.YtcfpphadlgbfdaaL4
set_option linter.unusedVariables false
set_option linter.unusedSimpArgs false
set_option maxRecDepth 100000
set_option maxHeartbeats 8000000
namespace Go.Proofs.Ytcfpphadlgbfdaa
open Go Go.RowKit Go.Proofs.AE
variable {G : Nat → AV}
abbrev ac_rostrumkeep_HashModel := CC.of Try.f3 [(7, [([0, 1, 2, 3, 4, 5, 6, 7, 8, 9, 10, 11, 12, 13, 14, 15, 16, 17, 18, 19, 20], [(4, 19), (6, 19), (9, 19), (11, 19), (14, 19), (16, 19)]), ([0, 1, 2, 3, 4, 5, 6, 7, 8, 9, 10, 11, 12, 13, 14, 15, 16, 17, 19, 18, 20], [(4, 18), (6, 18), (9, 18), (11, 18), (14, 18), (16, 18)])]), (29, [([0, 1, 2, 3, 4, 5, 6, 7, 8, 9, 10, 11, 12, 13, 14, 15, 16, 17, 18, 19, 20, 21, 22, 23, 24, 25, 26, 27, 28, 29, 30, 31, 32, 33, 34], [])])]
def lb_rostrumkeep_HashModel_0 : ACode := .seq (.seq (.reg [⟨some 18, .move (.tmp 5), none⟩,
    ⟨some 19, .move (.tmp 0), none⟩,
    ⟨some 20, .call { callee := .builtin .len, args := #[.tmp 19], argTypes := #[22] }, none⟩,
    ⟨some 21, .binOp .lss 3 (.tmp 18) (.tmp 20) 3, none⟩,
    ⟨some 22, .move (.tmp 21), none⟩,
    ⟨some 23, .move (.tmp 5), some (22, true)⟩,
    ⟨some 24, .binOp .lss 3 (.tmp 23) (.const (.int .i64 30)) 3, some (22, true)⟩,
    ⟨some 25, .pick (.tmp 22) (.tmp 24) (.const (.bool false)), none⟩]) (.cond (.tmp 25) .skip (.exit 0))) (.seq (.block 1 (.seq (.reg [⟨some 28, .buildSlice 29 4 #[(0, .const (.int .i64 4)), (1, .const (.int .i64 4)), (2, .const (.int .i64 5)), (3, .const (.int .i64 6))], none⟩,
    ⟨some 29, .move (.tmp 0), none⟩,
    ⟨some 30, .move (.tmp 5), none⟩,
    ⟨some 31, .indexAddr 22 (.tmp 29) (.tmp 30), none⟩,
    ⟨some 32, .fieldAddr 32 (.tmp 31) 0, none⟩,
    ⟨some 33, .load 3 (.tmp 32), none⟩,
    ⟨some 34, .call { callee := .value (.func 5), args := #[.tmp 33, .const (.int .i64 4)], argTypes := #[3, 3] }, none⟩,
    ⟨some 35, .indexAddr 29 (.tmp 28) (.tmp 34), none⟩,
    ⟨some 36, .load 3 (.tmp 35), none⟩,
    ⟨some 6, .assign (.tmp 36), none⟩]) (.seq (.regD [([⟨some 37, .move (.tmp 6), none⟩,
    ⟨some 38, .binOp .sub 3 (.tmp 37) (.const (.int .i64 1)) 3, none⟩,
    ⟨some 39, .move (.tmp 0), none⟩,
    ⟨some 40, .move (.tmp 5), none⟩,
    ⟨some 41, .indexAddr 22 (.tmp 39) (.tmp 40), none⟩,
    ⟨some 42, .fieldAddr 32 (.tmp 41) 2, none⟩,
    ⟨some 43, .load 3 (.tmp 42), none⟩,
    ⟨some 44, .move (.tmp 0), none⟩,
    ⟨some 45, .move (.tmp 5), none⟩,
    ⟨some 46, .indexAddr 22 (.tmp 44) (.tmp 45), none⟩,
    ⟨some 47, .fieldAddr 32 (.tmp 46) 3, none⟩,
    ⟨some 48, .load 3 (.tmp 47), none⟩,
    ⟨some 49, .move (.tmp 0), none⟩,
    ⟨some 50, .move (.tmp 5), none⟩,
    ⟨some 51, .indexAddr 22 (.tmp 49) (.tmp 50), none⟩,
    ⟨some 52, .fieldAddr 32 (.tmp 51) 4, none⟩,
    ⟨some 53, .load 9 (.tmp 52), none⟩,
    ⟨some 54, .build 32 #[(0, .tmp 38), (2, .tmp 43), (3, .tmp 48), (4, .tmp 53)], none⟩,
    ⟨some 55, .call { callee := .value (.func 6), args := #[.tmp 54], argTypes := #[32] }, none⟩,
    ⟨some 7, .alloc 34, none⟩,
    ⟨none, .store 34 (.tmp 7) (.tmp 55), none⟩], [(4, 19), (6, 19), (9, 19), (11, 19), (14, 19), (16, 19)]), ([⟨some 37, .move (.tmp 6), none⟩,
    ⟨some 38, .binOp .sub 3 (.tmp 37) (.const (.int .i64 1)) 3, none⟩,
    ⟨some 39, .move (.tmp 0), none⟩,
    ⟨some 40, .move (.tmp 5), none⟩,
    ⟨some 41, .indexAddr 22 (.tmp 39) (.tmp 40), none⟩,
    ⟨some 42, .fieldAddr 32 (.tmp 41) 2, none⟩,
    ⟨some 43, .load 3 (.tmp 42), none⟩,
    ⟨some 44, .move (.tmp 0), none⟩,
    ⟨some 45, .move (.tmp 5), none⟩,
    ⟨some 46, .indexAddr 22 (.tmp 44) (.tmp 45), none⟩,
    ⟨some 47, .fieldAddr 32 (.tmp 46) 3, none⟩,
    ⟨some 48, .load 3 (.tmp 47), none⟩,
    ⟨some 49, .move (.tmp 0), none⟩,
    ⟨some 50, .move (.tmp 5), none⟩,
    ⟨some 51, .indexAddr 22 (.tmp 49) (.tmp 50), none⟩,
    ⟨some 52, .fieldAddr 32 (.tmp 51) 4, none⟩,
    ⟨some 53, .load 9 (.tmp 52), none⟩,
    ⟨some 54, .build 32 #[(0, .tmp 38), (2, .tmp 43), (3, .tmp 48), (4, .tmp 53)], none⟩,
    ⟨some 7, .alloc 34, none⟩,
    ⟨some 55, .call { callee := .value (.func 6), args := #[.tmp 54], argTypes := #[32] }, none⟩,
    ⟨none, .store 34 (.tmp 7) (.tmp 55), none⟩], [(4, 18), (6, 18), (9, 18), (11, 18), (14, 18), (16, 18)])]) (.seq (.reg [⟨some 57, .move (.tmp 4), none⟩,
    ⟨some 58, .fieldAddr 34 (.tmp 7) 2, none⟩,
    ⟨some 59, .load 9 (.tmp 58), none⟩,
    ⟨some 60, .lookup 28 (.tmp 57) (.tmp 59) true, none⟩,
    ⟨some 56, .move (.tmp 60), none⟩,
    ⟨some 61, .extract (.tmp 56) 0, none⟩,
    ⟨some 62, .extract (.tmp 56) 1, none⟩,
    ⟨some 8, .assign (.tmp 61), none⟩,
    ⟨some 9, .assign (.tmp 62), none⟩]) (.seq (.reg [⟨some 64, .load 27 (.tmp 3), none⟩,
    ⟨some 65, .load 34 (.tmp 7), none⟩,
    ⟨some 66, .call { callee := .value (.func 7), args := #[.tmp 64, .tmp 65], argTypes := #[27, 34] }, none⟩,
    ⟨some 63, .move (.tmp 66), none⟩,
    ⟨some 67, .extract (.tmp 63) 0, none⟩,
    ⟨some 68, .extract (.tmp 63) 1, none⟩,
    ⟨some 69, .extract (.tmp 63) 2, none⟩,
    ⟨some 10, .alloc 27, none⟩,
    ⟨some 11, .alloc 39, none⟩,
    ⟨none, .store 27 (.tmp 10) (.tmp 67), none⟩,
    ⟨none, .store 39 (.tmp 11) (.tmp 68), none⟩,
    ⟨some 12, .assign (.tmp 69), none⟩]) (.seq (.seq (.reg [⟨some 70, .move (.tmp 12), none⟩,
    ⟨some 71, .binOp .neq 37 (.tmp 70) (.const (.int .i64 0)) 37, none⟩]) (.cond (.tmp 71) (.seq (.reg [⟨some 2, .assign (.const (.bool false)), none⟩]) .ret) .skip)) (.seq (.block 2 (.seq (.reg [⟨some 86, .move (.tmp 6), none⟩,
    ⟨some 87, .binOp .eql 3 (.tmp 86) (.const (.int .i64 4)) 3, none⟩,
    ⟨some 85, .assign (.tmp 87), none⟩]) (.cond (.tmp 85) (.seq (.seq (.reg [⟨some 88, .fieldAddr 39 (.tmp 11) 0, none⟩,
    ⟨some 89, .load 37 (.tmp 88), none⟩,
    ⟨some 90, .binOp .neq 37 (.tmp 89) (.const (.int .i64 0)) 37, none⟩,
    ⟨some 91, .move (.tmp 90), none⟩,
    ⟨some 92, .fieldAddr 39 (.tmp 11) 2, some (91, false)⟩,
    ⟨some 93, .load 3 (.tmp 92), some (91, false)⟩,
    ⟨some 94, .binOp .eql 3 (.tmp 93) (.const (.int .i64 1)) 3, some (91, false)⟩,
    ⟨some 95, .move (.tmp 9), some (91, false)⟩,
    ⟨some 96, .binOp .eql 4 (.tmp 94) (.tmp 95) 4, some (91, false)⟩,
    ⟨some 97, .pick (.tmp 91) (.const (.bool true)) (.tmp 96), none⟩]) (.cond (.tmp 97) (.seq (.reg [⟨some 2, .assign (.const (.bool false)), none⟩]) .ret) .skip)) (.reg [⟨some 98, .move (.tmp 4), none⟩,
    ⟨some 99, .fieldAddr 34 (.tmp 7) 2, none⟩,
    ⟨some 100, .load 9 (.tmp 99), none⟩,
    ⟨some 101, .fieldAddr 34 (.tmp 7) 3, none⟩,
    ⟨some 102, .load 9 (.tmp 101), none⟩,
    ⟨none, .mapUpdate 28 (.tmp 98) (.tmp 100) (.tmp 102), none⟩])) (.seq (.reg [⟨some 104, .move (.tmp 4), none⟩,
    ⟨some 105, .call { callee := .builtin .len, args := #[.tmp 104], argTypes := #[28] }, none⟩,
    ⟨some 106, .binOp .eql 3 (.tmp 105) (.const (.int .i64 0)) 3, none⟩,
    ⟨some 103, .assign (.tmp 106), none⟩]) (.cond (.tmp 103) (.seq (.reg [⟨some 107, .fieldAddr 39 (.tmp 11) 0, none⟩,
    ⟨some 108, .load 37 (.tmp 107), none⟩,
    ⟨some 109, .binOp .neq 37 (.tmp 108) (.const (.int .i64 5)) 37, none⟩]) (.cond (.tmp 109) (.seq (.reg [⟨some 2, .assign (.const (.bool false)), none⟩]) .ret) .skip)) (.seq (.reg [⟨some 111, .move (.tmp 6), none⟩,
    ⟨some 112, .binOp .eql 3 (.tmp 111) (.const (.int .i64 5)) 3, none⟩,
    ⟨some 110, .assign (.tmp 112), none⟩]) (.cond (.tmp 110) (.seq (.reg [⟨some 113, .move (.tmp 9), none⟩,
    ⟨some 114, .move (.tmp 113), none⟩,
    ⟨some 115, .fieldAddr 39 (.tmp 11) 1, some (114, true)⟩,
    ⟨some 116, .load 9 (.tmp 115), some (114, true)⟩,
    ⟨some 117, .move (.tmp 8), some (114, true)⟩,
    ⟨some 118, .binOp .neq 9 (.tmp 116) (.tmp 117) 9, some (114, true)⟩,
    ⟨some 119, .pick (.tmp 114) (.tmp 118) (.const (.bool false)), none⟩,
    ⟨some 120, .move (.tmp 119), none⟩,
    ⟨some 121, .fieldAddr 39 (.tmp 11) 0, some (120, false)⟩,
    ⟨some 122, .load 37 (.tmp 121), some (120, false)⟩,
    ⟨some 123, .binOp .eql 37 (.tmp 122) (.const (.int .i64 0)) 37, some (120, false)⟩,
    ⟨some 124, .move (.tmp 9), some (120, false)⟩,
    ⟨some 125, .binOp .neq 4 (.tmp 123) (.tmp 124) 4, some (120, false)⟩,
    ⟨some 126, .pick (.tmp 120) (.const (.bool true)) (.tmp 125), none⟩]) (.cond (.tmp 126) (.seq (.reg [⟨some 2, .assign (.const (.bool false)), none⟩]) .ret) .skip)) (.seq (.seq (.reg [⟨some 72, .fieldAddr 39 (.tmp 11) 0, none⟩,
    ⟨some 73, .load 37 (.tmp 72), none⟩,
    ⟨some 74, .binOp .neq 37 (.tmp 73) (.const (.int .i64 0)) 37, none⟩,
    ⟨some 75, .move (.tmp 74), none⟩,
    ⟨some 76, .fieldAddr 39 (.tmp 11) 2, some (75, false)⟩,
    ⟨some 77, .load 3 (.tmp 76), some (75, false)⟩,
    ⟨some 78, .binOp .eql 3 (.tmp 77) (.const (.int .i64 1)) 3, some (75, false)⟩,
    ⟨some 79, .move (.tmp 9), some (75, false)⟩,
    ⟨some 80, .binOp .neq 4 (.tmp 78) (.tmp 79) 4, some (75, false)⟩,
    ⟨some 81, .pick (.tmp 75) (.const (.bool true)) (.tmp 80), none⟩]) (.cond (.tmp 81) (.seq (.reg [⟨some 2, .assign (.const (.bool false)), none⟩]) .ret) .skip)) (.reg [⟨some 82, .move (.tmp 4), none⟩,
    ⟨some 83, .fieldAddr 34 (.tmp 7) 2, none⟩,
    ⟨some 84, .load 9 (.tmp 83), none⟩,
    ⟨none, .call { callee := .builtin .delete, args := #[.tmp 82, .tmp 84], argTypes := #[28, 9] }, none⟩]))))))))) (.reg [⟨some 127, .load 27 (.tmp 10), none⟩,
    ⟨none, .store 27 (.tmp 3) (.tmp 127), none⟩])))))))) (.reg [⟨some 26, .move (.tmp 5), none⟩,
    ⟨some 27, .binOp .add 3 (.tmp 26) (.const (.int .i64 1)) 3, none⟩,
    ⟨some 5, .assign (.tmp 27), none⟩]))
def lb_rostrumkeep_HashModel_1 : ACode := .seq (.seq (.reg [⟨some 128, .move (.tmp 13), none⟩,
    ⟨some 129, .fieldAddr 27 (.tmp 3) 3, none⟩,
    ⟨some 130, .load 23 (.tmp 129), none⟩,
    ⟨some 131, .call { callee := .builtin .len, args := #[.tmp 130], argTypes := #[23] }, none⟩,
    ⟨some 132, .binOp .lss 3 (.tmp 128) (.tmp 131) 3, none⟩]) (.cond (.tmp 132) .skip (.exit 3))) (.seq (.block 4 (.seq (.regD [([⟨some 135, .move (.tmp 4), none⟩,
    ⟨some 136, .fieldAddr 27 (.tmp 3) 3, none⟩,
    ⟨some 137, .load 23 (.tmp 136), none⟩,
    ⟨some 138, .move (.tmp 13), none⟩,
    ⟨some 139, .indexAddr 23 (.tmp 137) (.tmp 138), none⟩,
    ⟨some 140, .fieldAddr 43 (.tmp 139) 0, none⟩,
    ⟨some 141, .load 9 (.tmp 140), none⟩,
    ⟨some 142, .lookup 28 (.tmp 135) (.tmp 141) false, none⟩,
    ⟨some 143, .fieldAddr 27 (.tmp 3) 3, none⟩,
    ⟨some 144, .load 23 (.tmp 143), none⟩,
    ⟨some 145, .move (.tmp 13), none⟩,
    ⟨some 146, .indexAddr 23 (.tmp 144) (.tmp 145), none⟩,
    ⟨some 147, .fieldAddr 43 (.tmp 146) 1, none⟩,
    ⟨some 148, .load 9 (.tmp 147), none⟩,
    ⟨some 149, .binOp .neq 9 (.tmp 142) (.tmp 148) 9, none⟩,
    ⟨some 150, .move (.tmp 149), none⟩,
    ⟨some 151, .move (.tmp 13), some (150, false)⟩,
    ⟨some 152, .binOp .gtr 3 (.tmp 151) (.const (.int .i64 0)) 3, some (150, false)⟩,
    ⟨some 153, .move (.tmp 152), some (150, false)⟩,
    ⟨some 154, .fieldAddr 27 (.tmp 3) 3, some (153, true)⟩,
    ⟨some 155, .load 23 (.tmp 154), some (153, true)⟩,
    ⟨some 156, .move (.tmp 13), some (153, true)⟩,
    ⟨some 157, .binOp .sub 3 (.tmp 156) (.const (.int .i64 1)) 3, some (153, true)⟩,
    ⟨some 158, .indexAddr 23 (.tmp 155) (.tmp 157), some (153, true)⟩,
    ⟨some 159, .fieldAddr 43 (.tmp 158) 0, some (153, true)⟩,
    ⟨some 160, .load 9 (.tmp 159), some (153, true)⟩,
    ⟨some 161, .fieldAddr 27 (.tmp 3) 3, some (153, true)⟩,
    ⟨some 162, .load 23 (.tmp 161), some (153, true)⟩,
    ⟨some 163, .move (.tmp 13), some (153, true)⟩,
    ⟨some 164, .indexAddr 23 (.tmp 162) (.tmp 163), some (153, true)⟩,
    ⟨some 165, .fieldAddr 43 (.tmp 164) 0, some (153, true)⟩,
    ⟨some 166, .load 9 (.tmp 165), some (153, true)⟩,
    ⟨some 167, .binOp .geq 9 (.tmp 160) (.tmp 166) 9, some (153, true)⟩,
    ⟨some 168, .pick (.tmp 153) (.tmp 167) (.const (.bool false)), some (150, false)⟩,
    ⟨some 169, .pick (.tmp 150) (.const (.bool true)) (.tmp 168), none⟩], [])]) (.cond (.tmp 169) (.seq (.reg [⟨some 2, .assign (.const (.bool false)), none⟩]) .ret) .skip))) (.reg [⟨some 133, .move (.tmp 13), none⟩,
    ⟨some 134, .binOp .add 3 (.tmp 133) (.const (.int .i64 1)) 3, none⟩,
    ⟨some 13, .assign (.tmp 134), none⟩]))
theorem encP_str {m : List Pr} {f : ByteArray} {x : Value} (h : mpFind (encP m) f = some x) : ∃ t, x = .string t := by
  obtain ⟨e, he, h2⟩ := find_val h
  obtain ⟨p, _, rfl⟩ := List.mem_map.1 he
  exact ⟨p.2, h2.symm⟩
def rawK (k : Int) (r : Raw) : Raw := ⟨k - 1, 0, r.field, r.n, r.text⟩
theorem rawK_ok {k : Int} (h1 : 1 ≤ k) (h2 : k ≤ 22) {r : Raw} (h : r.Ok) : (rawK k r).Ok := ⟨by show i64 (k - 1); unfold i64; omega, by show i64 0; unfold i64; omega, h.field, h.n⟩
theorem cmd_rawK {k : Int} (h1 : 1 ≤ k) (h2 : k ≤ 22) (r : Raw) : cmdR (rawK k r) = cmdK k (rawK k r) := by
  unfold cmdR
  rw [show pk (rawK k r).kind 22 = k - 1 from pk_small (by show 0 ≤ k - 1; omega) (by show k - 1 < 22; omega), show 1 + (k - 1) = k by omega]
theorem hash_one : DoV zeroV ⟨4, kS, fS, eS, 0⟩ = (⟨3, eS, 0, [(fS, eS)], [], []⟩, toldR 1, 0) := by
  have o1 : checkC ⟨4, kS, fS, eS, 0⟩ = 0 := cmd_form (by omega) (by omega) (.inl ⟨.inl rfl, rfl⟩) (.inr rfl) (.inr rfl)
  have b1 : hashIn [] fS = false := rfl
  have b2 : hashAt [] fS = 0 := rfl
  have ins : ∀ {α : Type} (x : α), insAt [] 0 x = [x] := fun x => by simp [insAt]
  exact (one_made (v := ⟨3, eS, 0, [(fS, eS)], [], []⟩) (r := toldR 1) o1 rfl (by unfold doV hashV; simp [kindOfC, b1, b2, ins]) rfl rfl (by show (3 : Int) ≤ 3; omega)).1
abbrev hmSt (G : Nat → AV) (l : List Raw) (x : Nat × Val × Mp1) : S := ⟨[(0, .one (.v (.sl (l.map Raw.row)))), (3, .one (.ptr 0 0)), (4, .one (.mp 1)), (5, iV x.1)], G, [some (.box 27 x.2.1.c), some (.mp 28 x.2.2)]⟩
abbrev hmA (l : List Raw) (x : Nat × Val × Mp1) : Prop := x.1 ≤ l.length ∧ x.1 ≤ 30 ∧ HashI x.2.1 ∧ Same x.2.2 (encP x.2.1.pairs)
abbrev hmM (x : Nat × Val × Mp1) : Nat := 30 - x.1
theorem hm_step0 (l : List Raw) (hn : (l.length : Int) ≤ 9223372036854775807) (Q : Exit → S → Prop) (i : Nat) (v : Val) (es : Mp1) (hlt : i < l.length ∧ i < 30) (hI : HashI v) (hS : Same es (encP v.pairs)) (r : Raw) (hr : l[i]? = some r) (hok : r.Ok) (e : pk r.kind 4 = 0) :
    awp Try.prog 0 lb_rostrumkeep_HashModel_0 (thenA (Again 0 (hmSt G l) (hmA l) hmM (i, v, es)) Q) (hmSt G l (i, v, es)) := by
  have w1 : IntKind.i64.wrap ((i : Int) + 1) = (i : Int) + 1 := IntWalk.i64_in _ (by omega)
  have hpk := picked_c (G := G) r.kind 4 hok.kind (by omega)
  have q1 : decide (i < l.length) = true := by simp; omega
  have q2 : decide ((i : Int) < 30) = true := by simp; omega
  have hes := hS.len
  rw [encP_len] at hes
  rw [e] at hpk
  have hco := cmdR_ok (rawK_ok (k := 4) (by omega) (by omega) hok)
  have hcm := commandR_c (G := G) (rawK 4 r) (rawK_ok (by omega) (by omega) hok)
  have hfn : (cmdR (rawK 4 r)).field ∈ nine := by rw [cmd_rawK (by omega) (by omega)]; exact some_nine _
  have hck : (cmdR (rawK 4 r)).kind = 4 := by rw [cmd_rawK (by omega) (by omega)]; rfl
  generalize cmdR (rawK 4 r) = c at *
  obtain ⟨x, hx⟩ : ∃ x, mpFind es c.field = x := ⟨_, rfl⟩
  obtain ⟨w, rp, hd, hwI, hwk, a4, a0, a5, a6⟩ := hash_do (x := x) hI hco (by omega) hfn (by rw [← hS.find]; exact hx)
  have hdo := Do_c (G := G) v c hI.vk.small
  rw [hd] at hdo
  have hxs : x = none ∨ ∃ t, x = some (.string t) := by
    cases x with
    | none => exact .inl rfl
    | some x => exact .inr (by obtain ⟨t, ht⟩ := encP_str (m := v.pairs) (by rw [← hS.find]; exact hx); exact ⟨t, by rw [ht]⟩)
  obtain ⟨kk, key, f, tx, cn⟩ := c
  obtain ⟨rc, rt, rn, rl⟩ := rp
  simp only at hck hx a4 a0 a5 a6
  subst hck
  simp only [Raw.row, rawK] at hcm
  have hag : ∀ es', (Same es' (encP w.pairs)) → HashI w → (i + 1 ≤ l.length ∧ i + 1 ≤ 30 ∧ HashI w ∧ Same es' (encP w.pairs)) := fun es' h1 h2 => ⟨hlt.1, hlt.2, h2, h1⟩
  have hm : 30 - (i + 1) < 30 - i := by omega
  simp only [DoA, Val.c, Rep.c, Cmd.c, hmSt] at hdo hcm ⊢
  unfold lb_rostrumkeep_HashModel_0
  obtain ⟨b1, b2, b3, b4⟩ := a4 rfl
  subst b1
  have hS' : Same (mpPut es f (.string tx)) (encP w.pairs) := hS.put (by rw [← hS.find, hx]; exact b3) b4
  rcases hxs with hxs | ⟨t, hxs⟩
  all_goals
    subst hxs
    simp only [Option.isSome_none, Option.isSome_some, Bool.not_true, Bool.not_false] at b2
    repeat' (first | (with_reducible first | refine Cn (fun h => ?_) fun h => ?_ | refine And.intro ?_ ?_ | refine wR ?_ | exact wr _ _ | refine wa ?_ | apply awp_join | refine q hpk ?_ | refine qd hpk ?_ | refine qz hpk ?_ | refine q hcm ?_ | refine qd hcm ?_ | refine qz hcm ?_ | refine q hdo ?_ | refine qd hdo ?_ | refine qz hdo ?_) | (with_reducible refine CallZ.z ?_) | simp -dsimp [go_sem, hr, Raw.row, hx, w1, q1, q2, b2])
    all_goals first
      | exact hlt.1
      | omega
      | (refine Again.auto (i + 1, w, mpPut es f (.string tx)) ?_ (hag _ hS' hwI) hm
         simp -dsimp [go_sem, Val.c])
      | (exfalso; simp at *; omega)
theorem hm_step1 (l : List Raw) (hn : (l.length : Int) ≤ 9223372036854775807) (Q : Exit → S → Prop) (i : Nat) (v : Val) (es : Mp1) (hlt : i < l.length ∧ i < 30) (hI : HashI v) (hS : Same es (encP v.pairs)) (r : Raw) (hr : l[i]? = some r) (hok : r.Ok) (e : pk r.kind 4 = 1) :
    awp Try.prog 0 lb_rostrumkeep_HashModel_0 (thenA (Again 0 (hmSt G l) (hmA l) hmM (i, v, es)) Q) (hmSt G l (i, v, es)) := by
  have w1 : IntKind.i64.wrap ((i : Int) + 1) = (i : Int) + 1 := IntWalk.i64_in _ (by omega)
  have hpk := picked_c (G := G) r.kind 4 hok.kind (by omega)
  have q1 : decide (i < l.length) = true := by simp; omega
  have q2 : decide ((i : Int) < 30) = true := by simp; omega
  have hes := hS.len
  rw [encP_len] at hes
  rw [e] at hpk
  have hco := cmdR_ok (rawK_ok (k := 4) (by omega) (by omega) hok)
  have hcm := commandR_c (G := G) (rawK 4 r) (rawK_ok (by omega) (by omega) hok)
  have hfn : (cmdR (rawK 4 r)).field ∈ nine := by rw [cmd_rawK (by omega) (by omega)]; exact some_nine _
  have hck : (cmdR (rawK 4 r)).kind = 4 := by rw [cmd_rawK (by omega) (by omega)]; rfl
  generalize cmdR (rawK 4 r) = c at *
  obtain ⟨x, hx⟩ : ∃ x, mpFind es c.field = x := ⟨_, rfl⟩
  obtain ⟨w, rp, hd, hwI, hwk, a4, a0, a5, a6⟩ := hash_do (x := x) hI hco (by omega) hfn (by rw [← hS.find]; exact hx)
  have hdo := Do_c (G := G) v c hI.vk.small
  rw [hd] at hdo
  have hxs : x = none ∨ ∃ t, x = some (.string t) := by
    cases x with
    | none => exact .inl rfl
    | some x => exact .inr (by obtain ⟨t, ht⟩ := encP_str (m := v.pairs) (by rw [← hS.find]; exact hx); exact ⟨t, by rw [ht]⟩)
  obtain ⟨kk, key, f, tx, cn⟩ := c
  obtain ⟨rc, rt, rn, rl⟩ := rp
  simp only at hck hx a4 a0 a5 a6
  subst hck
  simp only [Raw.row, rawK] at hcm
  have hag : ∀ es', (Same es' (encP w.pairs)) → HashI w → (i + 1 ≤ l.length ∧ i + 1 ≤ 30 ∧ HashI w ∧ Same es' (encP w.pairs)) := fun es' h1 h2 => ⟨hlt.1, hlt.2, h2, h1⟩
  have hm : 30 - (i + 1) < 30 - i := by omega
  simp only [DoA, Val.c, Rep.c, Cmd.c, hmSt] at hdo hcm ⊢
  unfold lb_rostrumkeep_HashModel_0
  obtain ⟨b1, b2, b3, b4⟩ := a4 rfl
  subst b1
  have hS' : Same (mpPut es f (.string tx)) (encP w.pairs) := hS.put (by rw [← hS.find, hx]; exact b3) b4
  rcases hxs with hxs | ⟨t, hxs⟩
  all_goals
    subst hxs
    simp only [Option.isSome_none, Option.isSome_some, Bool.not_true, Bool.not_false] at b2
    repeat' (first | (with_reducible first | refine Cn (fun h => ?_) fun h => ?_ | refine And.intro ?_ ?_ | refine wR ?_ | exact wr _ _ | refine wa ?_ | apply awp_join | refine q hpk ?_ | refine qd hpk ?_ | refine qz hpk ?_ | refine q hcm ?_ | refine qd hcm ?_ | refine qz hcm ?_ | refine q hdo ?_ | refine qd hdo ?_ | refine qz hdo ?_) | (with_reducible refine CallZ.z ?_) | simp -dsimp [go_sem, hr, Raw.row, hx, w1, q1, q2, b2])
    all_goals first
      | exact hlt.1
      | omega
      | (refine Again.auto (i + 1, w, mpPut es f (.string tx)) ?_ (hag _ hS' hwI) hm
         simp -dsimp [go_sem, Val.c])
      | (exfalso; simp at *; omega)
theorem hm_step2 (l : List Raw) (hn : (l.length : Int) ≤ 9223372036854775807) (Q : Exit → S → Prop) (i : Nat) (v : Val) (es : Mp1) (hlt : i < l.length ∧ i < 30) (hI : HashI v) (hS : Same es (encP v.pairs)) (r : Raw) (hr : l[i]? = some r) (hok : r.Ok) (e : pk r.kind 4 = 2) :
    awp Try.prog 0 lb_rostrumkeep_HashModel_0 (thenA (Again 0 (hmSt G l) (hmA l) hmM (i, v, es)) Q) (hmSt G l (i, v, es)) := by
  have w1 : IntKind.i64.wrap ((i : Int) + 1) = (i : Int) + 1 := IntWalk.i64_in _ (by omega)
  have hpk := picked_c (G := G) r.kind 4 hok.kind (by omega)
  have q1 : decide (i < l.length) = true := by simp; omega
  have q2 : decide ((i : Int) < 30) = true := by simp; omega
  have hes := hS.len
  rw [encP_len] at hes
  rw [e] at hpk
  have hco := cmdR_ok (rawK_ok (k := 5) (by omega) (by omega) hok)
  have hcm := commandR_c (G := G) (rawK 5 r) (rawK_ok (by omega) (by omega) hok)
  have hfn : (cmdR (rawK 5 r)).field ∈ nine := by rw [cmd_rawK (by omega) (by omega)]; exact some_nine _
  have hck : (cmdR (rawK 5 r)).kind = 5 := by rw [cmd_rawK (by omega) (by omega)]; rfl
  generalize cmdR (rawK 5 r) = c at *
  obtain ⟨x, hx⟩ : ∃ x, mpFind es c.field = x := ⟨_, rfl⟩
  obtain ⟨w, rp, hd, hwI, hwk, a4, a0, a5, a6⟩ := hash_do (x := x) hI hco (by omega) hfn (by rw [← hS.find]; exact hx)
  have hdo := Do_c (G := G) v c hI.vk.small
  rw [hd] at hdo
  have hxs : x = none ∨ ∃ t, x = some (.string t) := by
    cases x with
    | none => exact .inl rfl
    | some x => exact .inr (by obtain ⟨t, ht⟩ := encP_str (m := v.pairs) (by rw [← hS.find]; exact hx); exact ⟨t, by rw [ht]⟩)
  obtain ⟨kk, key, f, tx, cn⟩ := c
  obtain ⟨rc, rt, rn, rl⟩ := rp
  simp only at hck hx a4 a0 a5 a6
  subst hck
  simp only [Raw.row, rawK] at hcm
  have hag : ∀ es', (Same es' (encP w.pairs)) → HashI w → (i + 1 ≤ l.length ∧ i + 1 ≤ 30 ∧ HashI w ∧ Same es' (encP w.pairs)) := fun es' h1 h2 => ⟨hlt.1, hlt.2, h2, h1⟩
  have hm : 30 - (i + 1) < 30 - i := by omega
  simp only [DoA, Val.c, Rep.c, Cmd.c, hmSt] at hdo hcm ⊢
  unfold lb_rostrumkeep_HashModel_0
  by_cases h0 : es.length = 0
  · obtain ⟨b1, b2⟩ := a0 (by decide) (by omega)
    subst b1; subst b2
    have q3 : ((es.length : Int) == 0) = true := by rw [beq_iff_eq]; omega
    repeat' (first | (with_reducible first | refine Cn (fun h => ?_) fun h => ?_ | refine And.intro ?_ ?_ | refine wR ?_ | exact wr _ _ | refine wa ?_ | apply awp_join | refine q hpk ?_ | refine qd hpk ?_ | refine qz hpk ?_ | refine q hcm ?_ | refine qd hcm ?_ | refine qz hcm ?_ | refine q hdo ?_ | refine qd hdo ?_ | refine qz hdo ?_) | (with_reducible refine CallZ.z ?_) | simp -dsimp [go_sem, hr, Raw.row, hx, w1, q1, q2, q3])
    all_goals first
      | exact hlt.1
      | omega
      | (refine Again.auto (i + 1, w, es) ?_ (hag _ hS hwI) hm
         simp -dsimp [go_sem, Val.c])
      | (exfalso; simp at *; omega)
  · have q3 : ((es.length : Int) == 0) = false := by rw [beq_eq_false_iff_ne]; omega
    obtain ⟨b1, b2, b3⟩ := a5 rfl (by omega)
    subst b1
    rcases hxs with hxs | ⟨t, hxs⟩
    · subst hxs
      simp only [Option.isSome_none] at b2
      repeat' (first | (with_reducible first | refine Cn (fun h => ?_) fun h => ?_ | refine And.intro ?_ ?_ | refine wR ?_ | exact wr _ _ | refine wa ?_ | apply awp_join | refine q hpk ?_ | refine qd hpk ?_ | refine qz hpk ?_ | refine q hcm ?_ | refine qd hcm ?_ | refine qz hcm ?_ | refine q hdo ?_ | refine qd hdo ?_ | refine qz hdo ?_) | (with_reducible refine CallZ.z ?_) | simp -dsimp [go_sem, hr, Raw.row, hx, w1, q1, q2, q3, b2])
      all_goals first
        | exact hlt.1
        | omega
        | (refine Again.auto (i + 1, w, es) ?_ (hag _ hS hwI) hm
           simp -dsimp [go_sem, Val.c])
        | (exfalso; simp at *; omega)
    · subst hxs
      simp only [Option.isSome_some] at b2
      have b4 := b3 t rfl
      subst b4
      repeat' (first | (with_reducible first | refine Cn (fun h => ?_) fun h => ?_ | refine And.intro ?_ ?_ | refine wR ?_ | exact wr _ _ | refine wa ?_ | apply awp_join | refine q hpk ?_ | refine qd hpk ?_ | refine qz hpk ?_ | refine q hcm ?_ | refine qd hcm ?_ | refine qz hcm ?_ | refine q hdo ?_ | refine qd hdo ?_ | refine qz hdo ?_) | (with_reducible refine CallZ.z ?_) | simp -dsimp [go_sem, hr, Raw.row, hx, w1, q1, q2, q3, b2])
      all_goals first
        | exact hlt.1
        | omega
        | (refine Again.auto (i + 1, w, es) ?_ (hag _ hS hwI) hm
           simp -dsimp [go_sem, Val.c])
        | (exfalso; simp at *; omega)
theorem hm_step3 (l : List Raw) (hn : (l.length : Int) ≤ 9223372036854775807) (Q : Exit → S → Prop) (i : Nat) (v : Val) (es : Mp1) (hlt : i < l.length ∧ i < 30) (hI : HashI v) (hS : Same es (encP v.pairs)) (r : Raw) (hr : l[i]? = some r) (hok : r.Ok) (e : pk r.kind 4 = 3) :
    awp Try.prog 0 lb_rostrumkeep_HashModel_0 (thenA (Again 0 (hmSt G l) (hmA l) hmM (i, v, es)) Q) (hmSt G l (i, v, es)) := by
  have w1 : IntKind.i64.wrap ((i : Int) + 1) = (i : Int) + 1 := IntWalk.i64_in _ (by omega)
  have hpk := picked_c (G := G) r.kind 4 hok.kind (by omega)
  have q1 : decide (i < l.length) = true := by simp; omega
  have q2 : decide ((i : Int) < 30) = true := by simp; omega
  have hes := hS.len
  rw [encP_len] at hes
  rw [e] at hpk
  have hco := cmdR_ok (rawK_ok (k := 6) (by omega) (by omega) hok)
  have hcm := commandR_c (G := G) (rawK 6 r) (rawK_ok (by omega) (by omega) hok)
  have hfn : (cmdR (rawK 6 r)).field ∈ nine := by rw [cmd_rawK (by omega) (by omega)]; exact some_nine _
  have hck : (cmdR (rawK 6 r)).kind = 6 := by rw [cmd_rawK (by omega) (by omega)]; rfl
  generalize cmdR (rawK 6 r) = c at *
  obtain ⟨x, hx⟩ : ∃ x, mpFind es c.field = x := ⟨_, rfl⟩
  obtain ⟨w, rp, hd, hwI, hwk, a4, a0, a5, a6⟩ := hash_do (x := x) hI hco (by omega) hfn (by rw [← hS.find]; exact hx)
  have hdo := Do_c (G := G) v c hI.vk.small
  rw [hd] at hdo
  have hxs : x = none ∨ ∃ t, x = some (.string t) := by
    cases x with
    | none => exact .inl rfl
    | some x => exact .inr (by obtain ⟨t, ht⟩ := encP_str (m := v.pairs) (by rw [← hS.find]; exact hx); exact ⟨t, by rw [ht]⟩)
  obtain ⟨kk, key, f, tx, cn⟩ := c
  obtain ⟨rc, rt, rn, rl⟩ := rp
  simp only at hck hx a4 a0 a5 a6
  subst hck
  simp only [Raw.row, rawK] at hcm
  have hag : ∀ es', (Same es' (encP w.pairs)) → HashI w → (i + 1 ≤ l.length ∧ i + 1 ≤ 30 ∧ HashI w ∧ Same es' (encP w.pairs)) := fun es' h1 h2 => ⟨hlt.1, hlt.2, h2, h1⟩
  have hm : 30 - (i + 1) < 30 - i := by omega
  simp only [DoA, Val.c, Rep.c, Cmd.c, hmSt] at hdo hcm ⊢
  unfold lb_rostrumkeep_HashModel_0
  by_cases h0 : es.length = 0
  · obtain ⟨b1, b2⟩ := a0 (by decide) (by omega)
    subst b1; subst b2
    have q3 : ((es.length : Int) == 0) = true := by rw [beq_iff_eq]; omega
    repeat' (first | (with_reducible first | refine Cn (fun h => ?_) fun h => ?_ | refine And.intro ?_ ?_ | refine wR ?_ | exact wr _ _ | refine wa ?_ | apply awp_join | refine q hpk ?_ | refine qd hpk ?_ | refine qz hpk ?_ | refine q hcm ?_ | refine qd hcm ?_ | refine qz hcm ?_ | refine q hdo ?_ | refine qd hdo ?_ | refine qz hdo ?_) | (with_reducible refine CallZ.z ?_) | simp -dsimp [go_sem, hr, Raw.row, hx, w1, q1, q2, q3])
    all_goals first
      | exact hlt.1
      | omega
      | (refine Again.auto (i + 1, w, es) ?_ (hag _ hS hwI) hm
         simp -dsimp [go_sem, Val.c])
      | (exfalso; simp at *; omega)
  · have q3 : ((es.length : Int) == 0) = false := by rw [beq_eq_false_iff_ne]; omega
    obtain ⟨b1, b2, b3, b4⟩ := a6 rfl (by omega)
    subst b1
    have hS' : Same (mpDel es f) (encP w.pairs) := hS.del (by rw [← hS.find, hx]; exact b3) b4
    rcases hxs with hxs | ⟨t, hxs⟩
    all_goals
      subst hxs
      simp only [Option.isSome_none, Option.isSome_some] at b2
      repeat' (first | (with_reducible first | refine Cn (fun h => ?_) fun h => ?_ | refine And.intro ?_ ?_ | refine wR ?_ | exact wr _ _ | refine wa ?_ | apply awp_join | refine q hpk ?_ | refine qd hpk ?_ | refine qz hpk ?_ | refine q hcm ?_ | refine qd hcm ?_ | refine qz hcm ?_ | refine q hdo ?_ | refine qd hdo ?_ | refine qz hdo ?_) | (with_reducible refine CallZ.z ?_) | simp -dsimp [go_sem, hr, Raw.row, hx, w1, q1, q2, q3, b2])
      all_goals first
        | exact hlt.1
        | omega
        | (refine Again.auto (i + 1, w, mpDel es f) ?_ (hag _ hS' hwI) hm
           simp -dsimp [go_sem, Val.c])
        | (exfalso; simp at *; omega)
abbrev hmSt2 (G : Nat → AV) (vk vn : Int) (vt : ByteArray) (vp : List Pr) (vi : List ByteArray) (vs : List Sc) (es : Mp1) (j : Nat) : S := ⟨[(3, .one (.ptr 0 0)), (4, .one (.mp 1)), (13, iV j)], G, [some (.box 27 [iC vk, sC vt, iC vn, .v (.sl (pR vp)), .v (.sl (strRows vi)), .v (.sl (sR vs))]), some (.mp 28 es)]⟩
theorem hm_step9 (vk vn : Int) (vt : ByteArray) (vp : List Pr) (vi : List ByteArray) (vs : List Sc) (es : Mp1) (Q : Exit → S → Prop) (hlen : vp.length ≤ 1000) (hS : Same es (encP vp)) (hone : Once (encP vp)) (hrise : vp.Pairwise (fun a b => bF a b < 0)) (j : Nat) (hjl : j < vp.length) :
    awp Try.prog 0 lb_rostrumkeep_HashModel_1 (thenA (Again 0 (hmSt2 G vk vn vt vp vi vs es) (fun j => j ≤ vp.length) (fun j => vp.length - j) j) Q) (hmSt2 G vk vn vt vp vi vs es j) := by
  simp only [hmSt2]
  have w2 : IntKind.i64.wrap ((j : Int) + 1) = (j : Int) + 1 := IntWalk.i64_in _ (by omega)
  have q3 : decide (j < vp.length) = true := by simpa using hjl
  obtain ⟨⟨a, t⟩, ha⟩ : ∃ x, vp[j]? = some x := ⟨_, List.getElem?_eq_getElem hjl⟩
  have hfa : mpFind es a = some (.string t) := by
    rw [hS.find]
    exact find_at hone (i := j) (by unfold encP; rw [List.getElem?_map, ha]; rfl)
  unfold lb_rostrumkeep_HashModel_1
  by_cases hj0 : j = 0
  · have q4 : decide (0 < j) = false := by simpa using hj0
    repeat' (first | (with_reducible first | refine Cn (fun h => ?_) fun h => ?_ | refine And.intro ?_ ?_ | refine wR ?_ | exact wr _ _ | refine wa ?_ | apply awp_join) | (with_reducible refine CallZ.z ?_) | simp -dsimp [go_sem, ha, hfa, w2, q3, q4])
    all_goals first
      | omega
      | (refine Again.auto (j + 1) ?_ hjl ?_
         · simp -dsimp [go_sem]
         · show vp.length - (j + 1) < vp.length - j; omega)
  · obtain ⟨p, hp⟩ : ∃ p, j = p + 1 := ⟨j - 1, by omega⟩
    have ha' := ha
    rw [hp] at ha'
    have q4 : decide (0 < j) = true := by simp; omega
    obtain ⟨⟨b, u⟩, hb⟩ : ∃ x, vp[p]? = some x := ⟨_, List.getElem?_eq_getElem (by omega)⟩
    have w3 : IntKind.i64.wrap (p : Int) = p := IntWalk.i64_in _ (by omega)
    have e5 : IntKind.i64.wrap ((j : Int) - 1) = (p : Int) := by rw [IntWalk.i64_in _ (by omega)]; omega
    have hr : lessB b a = true := by rw [lessB_eq]; simpa using pw_nextS hrise hb ha'
    repeat' (first | (with_reducible first | refine Cn (fun h => ?_) fun h => ?_ | refine And.intro ?_ ?_ | refine wR ?_ | exact wr _ _ | refine wa ?_ | apply awp_join) | (with_reducible refine CallZ.z ?_) | simp -dsimp [go_sem, ha, hb, hfa, w2, w3, e5, q3, q4, hr])
    all_goals first
      | omega
      | (refine Again.auto (j + 1) ?_ hjl ?_
         · simp -dsimp [go_sem]
         · show vp.length - (j + 1) < vp.length - j; omega)
end Go.Proofs.Ytcfpphadlgbfdaa
