/- The functions ValueBad and AllOrder answer true. -/
import Derived.Test.YtacdeehkdepiaaaL6
set_option linter.unusedVariables false
set_option linter.unusedSimpArgs false
set_option maxRecDepth 100000
set_option maxHeartbeats 8000000
namespace Go.Proofs.Ytacdeehkdepiaaa
open Go Go.RowKit Go.Proofs.AE
variable {G : Nat → AV}
def ac_rostrumkeep_ValueBad : ACode := .seq (.reg [⟨some 6, .assign (.const (.bool false)), none⟩]) (.seq (.reg [⟨some 12, .move (.tmp 0), none⟩,
    ⟨some 13, .call { callee := .value (.func 28), args := #[.tmp 12, .const (.int .i64 4)], argTypes := #[3, 3] }, none⟩,
    ⟨some 14, .binOp .add 3 (.const (.int .i64 2)) (.tmp 13) 3, none⟩,
    ⟨some 15, .move (.tmp 1), none⟩,
    ⟨some 16, .call { callee := .value (.func 21), args := #[.tmp 14, .tmp 15], argTypes := #[3, 22] }, none⟩,
    ⟨some 7, .alloc 29, none⟩,
    ⟨none, .store 29 (.tmp 7) (.tmp 16), none⟩]) (.seq (.seq (.reg [⟨some 17, .load 29 (.tmp 7), none⟩,
    ⟨some 18, .call { callee := .value (.func 22), args := #[.tmp 17], argTypes := #[29] }, none⟩,
    ⟨some 19, .binOp .neq 31 (.tmp 18) (.const (.int .i64 0)) 31, none⟩]) (.cond (.tmp 19) (.seq (.reg [⟨some 6, .assign (.const (.bool false)), none⟩]) .ret) .skip)) (.seq (.reg [⟨some 8, .assign (.const (.int .i64 8)), none⟩]) (.seq (.seq (.reg [⟨some 20, .move (.tmp 2), none⟩,
    ⟨some 21, .call { callee := .value (.func 28), args := #[.tmp 20, .const (.int .i64 4)], argTypes := #[3, 3] }, none⟩]) (.block 0 (.seq (.reg [⟨some 25, .binOp .eql 3 (.tmp 21) (.const (.int .i64 0)) 3, none⟩,
    ⟨some 24, .assign (.tmp 25), none⟩]) (.cond (.tmp 24) (.reg [⟨some 26, .fieldAddr 29 (.tmp 7) 1, none⟩,
    ⟨none, .store 9 (.tmp 26) (.const (.string { data := #[120] })), none⟩]) (.seq (.reg [⟨some 28, .binOp .eql 3 (.tmp 21) (.const (.int .i64 1)) 3, none⟩,
    ⟨some 27, .assign (.tmp 28), none⟩]) (.cond (.tmp 27) (.reg [⟨some 29, .fieldAddr 29 (.tmp 7) 2, none⟩,
    ⟨none, .store 3 (.tmp 29) (.const (.int .i64 1)), none⟩]) (.seq (.reg [⟨some 31, .binOp .eql 3 (.tmp 21) (.const (.int .i64 2)) 3, none⟩,
    ⟨some 30, .assign (.tmp 31), none⟩]) (.cond (.tmp 30) (.seq (.reg [⟨some 32, .fieldAddr 29 (.tmp 7) 0, none⟩,
    ⟨none, .store 3 (.tmp 32) (.const (.int .i64 7)), none⟩]) (.reg [⟨some 8, .assign (.const (.int .i64 3)), none⟩])) (.seq (.reg [⟨some 22, .buildSlice 26 2 #[(0, .const (.string { data := #[98] })), (1, .const (.string { data := #[97] }))], none⟩,
    ⟨some 23, .build 29 #[(0, .const (.int .i64 5)), (4, .tmp 22)], none⟩,
    ⟨none, .store 29 (.tmp 7) (.tmp 23), none⟩]) (.reg [⟨some 8, .assign (.const (.int .i64 10)), none⟩])))))))))) (.seq (.reg [⟨some 34, .load 29 (.tmp 7), none⟩,
    ⟨some 35, .build 34 #[(0, .const (.int .i64 17)), (1, .const (.string { data := #[107] }))], none⟩,
    ⟨some 36, .call { callee := .value (.func 24), args := #[.tmp 34, .tmp 35], argTypes := #[29, 34] }, none⟩,
    ⟨some 33, .move (.tmp 36), none⟩,
    ⟨some 37, .extract (.tmp 33) 0, none⟩,
    ⟨some 38, .extract (.tmp 33) 1, none⟩,
    ⟨some 39, .extract (.tmp 33) 2, none⟩,
    ⟨some 9, .alloc 29, none⟩,
    ⟨some 10, .alloc 37, none⟩,
    ⟨none, .store 29 (.tmp 9) (.tmp 37), none⟩,
    ⟨none, .store 37 (.tmp 10) (.tmp 38), none⟩,
    ⟨some 11, .assign (.tmp 39), none⟩]) (.seq (.reg [⟨some 40, .load 29 (.tmp 7), none⟩,
    ⟨some 41, .call { callee := .value (.func 22), args := #[.tmp 40], argTypes := #[29] }, none⟩,
    ⟨some 42, .move (.tmp 8), none⟩,
    ⟨some 43, .binOp .eql 31 (.tmp 41) (.tmp 42) 31, none⟩,
    ⟨some 44, .move (.tmp 43), none⟩,
    ⟨some 45, .move (.tmp 11), some (44, true)⟩,
    ⟨some 46, .move (.tmp 8), some (44, true)⟩,
    ⟨some 47, .binOp .eql 31 (.tmp 45) (.tmp 46) 31, some (44, true)⟩,
    ⟨some 48, .pick (.tmp 44) (.tmp 47) (.const (.bool false)), none⟩,
    ⟨some 6, .assign (.tmp 48), none⟩]) .ret))))))
theorem rs_rostrumkeep_ValueBad : Try.f16.results.toList = [.tmp 6] := rfl
theorem ok_rostrumkeep_ValueBad : Try.f16.body.bind (comp Try.f16.ntmps) = some ac_rostrumkeep_ValueBad := by kernel_rfl
def ac_rostrumkeep_AllOrder : ACode := .seq (.reg [⟨some 4, .assign (.const (.bool false)), none⟩]) (.seq (.reg [⟨some 11, .move (.tmp 0), none⟩,
    ⟨some 12, .call { callee := .value (.func 28), args := #[.tmp 11, .const (.int .i64 4)], argTypes := #[3, 3] }, none⟩,
    ⟨some 13, .binOp .add 3 (.const (.int .i64 2)) (.tmp 12) 3, none⟩,
    ⟨some 14, .move (.tmp 1), none⟩,
    ⟨some 15, .call { callee := .value (.func 21), args := #[.tmp 13, .tmp 14], argTypes := #[3, 22] }, none⟩,
    ⟨some 5, .alloc 29, none⟩,
    ⟨none, .store 29 (.tmp 5) (.tmp 15), none⟩]) (.seq (.reg [⟨some 17, .load 29 (.tmp 5), none⟩,
    ⟨some 18, .build 34 #[(0, .const (.int .i64 18)), (1, .const (.string { data := #[107] }))], none⟩,
    ⟨some 19, .call { callee := .value (.func 24), args := #[.tmp 17, .tmp 18], argTypes := #[29, 34] }, none⟩,
    ⟨some 16, .move (.tmp 19), none⟩,
    ⟨some 20, .extract (.tmp 16) 0, none⟩,
    ⟨some 21, .extract (.tmp 16) 1, none⟩,
    ⟨some 22, .extract (.tmp 16) 2, none⟩,
    ⟨some 6, .alloc 29, none⟩,
    ⟨some 7, .alloc 37, none⟩,
    ⟨none, .store 29 (.tmp 6) (.tmp 20), none⟩,
    ⟨none, .store 37 (.tmp 7) (.tmp 21), none⟩,
    ⟨some 8, .assign (.tmp 22), none⟩]) (.seq (.seq (.reg [⟨some 23, .move (.tmp 8), none⟩,
    ⟨some 24, .binOp .neq 31 (.tmp 23) (.const (.int .i64 0)) 31, none⟩,
    ⟨some 25, .move (.tmp 24), none⟩,
    ⟨some 26, .fieldAddr 37 (.tmp 7) 3, some (25, false)⟩,
    ⟨some 27, .load 26 (.tmp 26), some (25, false)⟩,
    ⟨some 28, .call { callee := .builtin .len, args := #[.tmp 27], argTypes := #[26] }, some (25, false)⟩,
    ⟨some 29, .binOp .eql 3 (.tmp 28) (.const (.int .i64 0)) 3, some (25, false)⟩,
    ⟨some 30, .pick (.tmp 25) (.const (.bool true)) (.tmp 29), none⟩]) (.cond (.tmp 30) (.seq (.reg [⟨some 4, .assign (.const (.bool false)), none⟩]) .ret) .skip)) (.seq (.seq (.reg [⟨some 9, .assign (.const (.int .i64 0)), none⟩]) (.block 0 (.loop (.seq (.seq (.reg [⟨some 31, .move (.tmp 9), none⟩,
    ⟨some 32, .fieldAddr 37 (.tmp 7) 3, none⟩,
    ⟨some 33, .load 26 (.tmp 32), none⟩,
    ⟨some 34, .call { callee := .builtin .len, args := #[.tmp 33], argTypes := #[26] }, none⟩,
    ⟨some 35, .binOp .lss 3 (.tmp 31) (.tmp 34) 3, none⟩]) (.cond (.tmp 35) .skip (.exit 0))) (.seq (.block 1 (.seq (.reg [⟨some 10, .assign (.const (.string { data := #[] })), none⟩]) (.seq (.seq (.reg [⟨some 38, .fieldAddr 29 (.tmp 5) 0, none⟩,
    ⟨some 39, .load 3 (.tmp 38), none⟩]) (.block 2 (.seq (.reg [⟨some 46, .binOp .eql 3 (.tmp 39) (.const (.int .i64 3)) 3, none⟩,
    ⟨some 45, .assign (.tmp 46), none⟩]) (.cond (.tmp 45) (.reg [⟨some 47, .fieldAddr 29 (.tmp 5) 3, none⟩,
    ⟨some 48, .load 25 (.tmp 47), none⟩,
    ⟨some 49, .move (.tmp 9), none⟩,
    ⟨some 50, .indexAddr 25 (.tmp 48) (.tmp 49), none⟩,
    ⟨some 51, .fieldAddr 50 (.tmp 50) 0, none⟩,
    ⟨some 52, .load 9 (.tmp 51), none⟩,
    ⟨some 10, .assign (.tmp 52), none⟩]) (.seq (.reg [⟨some 54, .binOp .eql 3 (.tmp 39) (.const (.int .i64 6)) 3, none⟩,
    ⟨some 53, .assign (.tmp 54), none⟩]) (.cond (.tmp 53) (.reg [⟨some 55, .fieldAddr 29 (.tmp 5) 5, none⟩,
    ⟨some 56, .load 27 (.tmp 55), none⟩,
    ⟨some 57, .move (.tmp 9), none⟩,
    ⟨some 58, .indexAddr 27 (.tmp 56) (.tmp 57), none⟩,
    ⟨some 59, .fieldAddr 56 (.tmp 58) 0, none⟩,
    ⟨some 60, .load 9 (.tmp 59), none⟩,
    ⟨some 10, .assign (.tmp 60), none⟩]) (.reg [⟨some 40, .fieldAddr 29 (.tmp 5) 4, none⟩,
    ⟨some 41, .load 26 (.tmp 40), none⟩,
    ⟨some 42, .move (.tmp 9), none⟩,
    ⟨some 43, .indexAddr 26 (.tmp 41) (.tmp 42), none⟩,
    ⟨some 44, .load 9 (.tmp 43), none⟩,
    ⟨some 10, .assign (.tmp 44), none⟩]))))))) (.seq (.regD [([⟨some 61, .fieldAddr 37 (.tmp 7) 3, none⟩,
    ⟨some 62, .load 26 (.tmp 61), none⟩,
    ⟨some 63, .move (.tmp 9), none⟩,
    ⟨some 64, .indexAddr 26 (.tmp 62) (.tmp 63), none⟩,
    ⟨some 65, .load 9 (.tmp 64), none⟩,
    ⟨some 66, .move (.tmp 10), none⟩,
    ⟨some 67, .binOp .neq 9 (.tmp 65) (.tmp 66) 9, none⟩,
    ⟨some 68, .move (.tmp 67), none⟩,
    ⟨some 69, .fieldAddr 29 (.tmp 5) 0, some (68, false)⟩,
    ⟨some 70, .load 3 (.tmp 69), some (68, false)⟩,
    ⟨some 71, .binOp .eql 3 (.tmp 70) (.const (.int .i64 3)) 3, some (68, false)⟩,
    ⟨some 72, .move (.tmp 71), some (68, false)⟩,
    ⟨some 73, .fieldAddr 29 (.tmp 5) 0, some (72, false)⟩,
    ⟨some 74, .load 3 (.tmp 73), some (72, false)⟩,
    ⟨some 75, .binOp .eql 3 (.tmp 74) (.const (.int .i64 5)) 3, some (72, false)⟩,
    ⟨some 76, .pick (.tmp 72) (.const (.bool true)) (.tmp 75), some (68, false)⟩,
    ⟨some 77, .move (.tmp 76), some (68, false)⟩,
    ⟨some 78, .move (.tmp 9), some (77, true)⟩,
    ⟨some 79, .binOp .gtr 3 (.tmp 78) (.const (.int .i64 0)) 3, some (77, true)⟩,
    ⟨some 80, .pick (.tmp 77) (.tmp 79) (.const (.bool false)), some (68, false)⟩,
    ⟨some 81, .move (.tmp 80), some (68, false)⟩,
    ⟨some 82, .fieldAddr 37 (.tmp 7) 3, some (81, true)⟩,
    ⟨some 83, .load 26 (.tmp 82), some (81, true)⟩,
    ⟨some 84, .move (.tmp 9), some (81, true)⟩,
    ⟨some 85, .binOp .sub 3 (.tmp 84) (.const (.int .i64 1)) 3, some (81, true)⟩,
    ⟨some 86, .indexAddr 26 (.tmp 83) (.tmp 85), some (81, true)⟩,
    ⟨some 87, .load 9 (.tmp 86), some (81, true)⟩,
    ⟨some 88, .fieldAddr 37 (.tmp 7) 3, some (81, true)⟩,
    ⟨some 89, .load 26 (.tmp 88), some (81, true)⟩,
    ⟨some 90, .move (.tmp 9), some (81, true)⟩,
    ⟨some 91, .indexAddr 26 (.tmp 89) (.tmp 90), some (81, true)⟩,
    ⟨some 92, .load 9 (.tmp 91), some (81, true)⟩,
    ⟨some 93, .binOp .geq 9 (.tmp 87) (.tmp 92) 9, some (81, true)⟩,
    ⟨some 94, .pick (.tmp 81) (.tmp 93) (.const (.bool false)), some (68, false)⟩,
    ⟨some 95, .pick (.tmp 68) (.const (.bool true)) (.tmp 94), none⟩], [])]) (.cond (.tmp 95) (.seq (.reg [⟨some 4, .assign (.const (.bool false)), none⟩]) .ret) .skip))))) (.reg [⟨some 36, .move (.tmp 9), none⟩,
    ⟨some 37, .binOp .add 3 (.tmp 36) (.const (.int .i64 1)) 3, none⟩,
    ⟨some 9, .assign (.tmp 37), none⟩])))))) (.seq (.reg [⟨some 4, .assign (.const (.bool true)), none⟩]) .ret)))))
theorem rs_rostrumkeep_AllOrder : Try.f18.results.toList = [.tmp 4] := rfl
theorem ok_rostrumkeep_AllOrder : Try.f18.body.bind (comp Try.f18.ntmps) = some ac_rostrumkeep_AllOrder := by kernel_rfl
theorem doV_bad {v : Val} {c : Cmd} (h : checkV v ≠ 0) (hn : 1 ≤ v.kind) : DoV v c = (zeroV, toldR 0, checkV v) := by
  unfold DoV
  rw [if_pos ⟨h, none_kind hn⟩]
theorem bad_text {v : Val} (ok : OkV v) (h3 : 3 ≤ v.kind) (t : ByteArray) (ht : t ≠ ⟨#[]⟩) : checkV { v with text := t } = 8 := by
  have hk := ok.kind
  unfold checkV
  simp only
  rw [if_neg (by omega), if_neg (by omega), if_pos]
  unfold Val.bad
  have : (v.kind != 1) = true := by simp; omega
  simp [this, ht]
theorem bad_count {v : Val} (ok : OkV v) (h3 : 3 ≤ v.kind) (n : Int) (hn : n ≠ 0) : checkV { v with count := n } = 8 := by
  have hk := ok.kind
  unfold checkV
  simp only
  rw [if_neg (by omega), if_neg (by omega), if_pos]
  unfold Val.bad
  have : (v.kind != 2) = true := by simp; omega
  simp [this, hn]
theorem bad_kind (v : Val) : checkV { v with kind := 7 } = 3 := by
  unfold checkV
  simp
def baV : Val := ⟨5, ⟨#[]⟩, 0, [], [⟨#[98]⟩, ⟨#[97]⟩], []⟩
theorem bad_order : checkV baV = 10 := by decide
theorem valueBad_c (kind : Int) (l : List Raw) (which : Int) (hk : i64 kind) (hl : ∀ r ∈ l, r.Ok) (hn : (l.length : Int) * 48 ≤ 140737488351232) (hw : i64 which) : PCall Try.prog G 16 [iV kind, .one (.v (.sl (l.map Raw.row))), iV which] (bV true) := by
  have hp := pk_range (n := kind) (m := 4) (by omega)
  have hpk := picked_c (G := G) kind 4 hk (by omega)
  have hpk2 := picked_c (G := G) which 4 hw (by omega)
  have hp2 := pk_range (n := which) (m := 4) (by omega)
  have hf := full_c (G := G) (2 + pk kind 4) l (by unfold i64; omega) hl hn
  obtain ⟨ok, hkd⟩ := full2_kind kind l hl
  have w1 : IntKind.i64.wrap (2 + pk kind 4) = 2 + pk kind 4 := IntWalk.i64_in _ (by omega)
  generalize pk kind 4 = p at *
  generalize fullV (2 + p) l = v at *
  have hch := checkV_c (G := G) v ok.small
  rw [checkV_iff.2 ok] at hch
  have key : ∀ (w : Val) (e : Int), w.Small → checkV w = e → e ≠ 0 → 1 ≤ w.kind → PCall Try.prog G 22 [.agg w.c] (iV e) ∧ PCall Try.prog G 24 [.agg w.c, .agg lenC.c] (DoA (zeroV, toldR 0, e)) := by
    intro w e h1 h2 h3 h4
    have a := checkV_c (G := G) w h1
    have b := Do_c (G := G) w lenC h1
    rw [doV_bad (by rw [h2]; exact h3) h4] at b
    rw [h2] at a b
    exact ⟨a, b⟩
  have q : pk which 4 = 0 ∨ pk which 4 = 1 ∨ pk which 4 = 2 ∨ pk which 4 = 3 := by omega
  rcases q with q | q | q | q <;> rw [q] at hpk2
  · obtain ⟨a, b⟩ := key { v with text := ⟨#[120]⟩ } 8 ok.small (bad_text ok (by omega) _ (by decide)) (by decide) (by show 1 ≤ v.kind; omega)
    simp only [DoA, Cmd.c, Rep.c, Val.c, toldR, lenC, zeroV, List.map_nil] at hf hch a b
    refine pcall mixed Try.func16 ok_rostrumkeep_ValueBad rs_rostrumkeep_ValueBad (by simp [Try.f16]) ?_
    unfold ac_rostrumkeep_ValueBad
    repeat' (first | (with_reducible first | refine Cnd.intro (fun h => ?_) (fun h => ?_) | refine And.intro ?_ ?_ | refine Wk.refl ?_ | exact Weak.refl _ _ | refine weak_auto ?_ | apply awp_join) | ((try with_reducible refine CallZ.l ?_); with_reducible refine qcf (by first | exact hpk | exact hf | exact hch | exact hpk2 | exact a | exact b) ?_ ?_) | ((try with_reducible refine CallZ.l ?_); with_reducible refine qcn (by first | exact qkc hpk (by with_unfolding_all rfl) | exact qkc hf (by with_unfolding_all rfl) | exact qkc hch (by with_unfolding_all rfl) | exact qkc hpk2 (by with_unfolding_all rfl) | exact qkc a (by with_unfolding_all rfl) | exact qkc b (by with_unfolding_all rfl)) ?_) | ((with_reducible refine qcz (by first | exact qkz hpk (by with_unfolding_all rfl) | exact qkz hf (by with_unfolding_all rfl) | exact qkz hch (by with_unfolding_all rfl) | exact qkz hpk2 (by with_unfolding_all rfl) | exact qkz a (by with_unfolding_all rfl) | exact qkz b (by with_unfolding_all rfl)) ?_); intro zh1 zq1; (try simp -dsimp [go_sem] at zq1); obtain ⟨rfl⟩ := zq1) | (with_reducible refine CallZ.z ?_) | simp -dsimp [go_sem, w1])
  · obtain ⟨a, b⟩ := key { v with count := 1 } 8 ok.small (bad_count ok (by omega) _ (by decide)) (by decide) (by show 1 ≤ v.kind; omega)
    simp only [DoA, Cmd.c, Rep.c, Val.c, toldR, lenC, zeroV, List.map_nil] at hf hch a b
    refine pcall mixed Try.func16 ok_rostrumkeep_ValueBad rs_rostrumkeep_ValueBad (by simp [Try.f16]) ?_
    unfold ac_rostrumkeep_ValueBad
    repeat' (first | (with_reducible first | refine Cnd.intro (fun h => ?_) (fun h => ?_) | refine And.intro ?_ ?_ | refine Wk.refl ?_ | exact Weak.refl _ _ | refine weak_auto ?_ | apply awp_join) | ((try with_reducible refine CallZ.l ?_); with_reducible refine qcf (by first | exact hpk | exact hf | exact hch | exact hpk2 | exact a | exact b) ?_ ?_) | ((try with_reducible refine CallZ.l ?_); with_reducible refine qcn (by first | exact qkc hpk (by with_unfolding_all rfl) | exact qkc hf (by with_unfolding_all rfl) | exact qkc hch (by with_unfolding_all rfl) | exact qkc hpk2 (by with_unfolding_all rfl) | exact qkc a (by with_unfolding_all rfl) | exact qkc b (by with_unfolding_all rfl)) ?_) | ((with_reducible refine qcz (by first | exact qkz hpk (by with_unfolding_all rfl) | exact qkz hf (by with_unfolding_all rfl) | exact qkz hch (by with_unfolding_all rfl) | exact qkz hpk2 (by with_unfolding_all rfl) | exact qkz a (by with_unfolding_all rfl) | exact qkz b (by with_unfolding_all rfl)) ?_); intro zh1 zq1; (try simp -dsimp [go_sem] at zq1); obtain ⟨rfl⟩ := zq1) | (with_reducible refine CallZ.z ?_) | simp -dsimp [go_sem, w1])
  · obtain ⟨a, b⟩ := key { v with kind := 7 } 3 ok.small (bad_kind v) (by decide) (by show (1 : Int) ≤ 7; omega)
    simp only [DoA, Cmd.c, Rep.c, Val.c, toldR, lenC, zeroV, List.map_nil] at hf hch a b
    refine pcall mixed Try.func16 ok_rostrumkeep_ValueBad rs_rostrumkeep_ValueBad (by simp [Try.f16]) ?_
    unfold ac_rostrumkeep_ValueBad
    repeat' (first | (with_reducible first | refine Cnd.intro (fun h => ?_) (fun h => ?_) | refine And.intro ?_ ?_ | refine Wk.refl ?_ | exact Weak.refl _ _ | refine weak_auto ?_ | apply awp_join) | ((try with_reducible refine CallZ.l ?_); with_reducible refine qcf (by first | exact hpk | exact hf | exact hch | exact hpk2 | exact a | exact b) ?_ ?_) | ((try with_reducible refine CallZ.l ?_); with_reducible refine qcn (by first | exact qkc hpk (by with_unfolding_all rfl) | exact qkc hf (by with_unfolding_all rfl) | exact qkc hch (by with_unfolding_all rfl) | exact qkc hpk2 (by with_unfolding_all rfl) | exact qkc a (by with_unfolding_all rfl) | exact qkc b (by with_unfolding_all rfl)) ?_) | ((with_reducible refine qcz (by first | exact qkz hpk (by with_unfolding_all rfl) | exact qkz hf (by with_unfolding_all rfl) | exact qkz hch (by with_unfolding_all rfl) | exact qkz hpk2 (by with_unfolding_all rfl) | exact qkz a (by with_unfolding_all rfl) | exact qkz b (by with_unfolding_all rfl)) ?_); intro zh1 zq1; (try simp -dsimp [go_sem] at zq1); obtain ⟨rfl⟩ := zq1) | (with_reducible refine CallZ.z ?_) | simp -dsimp [go_sem, w1])
  · obtain ⟨a, b⟩ := key baV 10 (by unfold Val.Small baV; decide) bad_order (by decide) (by decide)
    simp only [DoA, Cmd.c, Rep.c, Val.c, toldR, lenC, zeroV, baV, List.map_nil, List.map_cons] at hf hch a b
    refine pcall mixed Try.func16 ok_rostrumkeep_ValueBad rs_rostrumkeep_ValueBad (by simp [Try.f16]) ?_
    unfold ac_rostrumkeep_ValueBad
    repeat' (first | (with_reducible first | refine Cnd.intro (fun h => ?_) (fun h => ?_) | refine And.intro ?_ ?_ | refine Wk.refl ?_ | exact Weak.refl _ _ | refine weak_auto ?_ | apply awp_join) | ((try with_reducible refine CallZ.l ?_); with_reducible refine qcf (by first | exact hpk | exact hf | exact hch | exact hpk2 | exact a | exact b) ?_ ?_) | ((try with_reducible refine CallZ.l ?_); with_reducible refine qcn (by first | exact qkc hpk (by with_unfolding_all rfl) | exact qkc hf (by with_unfolding_all rfl) | exact qkc hch (by with_unfolding_all rfl) | exact qkc hpk2 (by with_unfolding_all rfl) | exact qkc a (by with_unfolding_all rfl) | exact qkc b (by with_unfolding_all rfl)) ?_) | ((with_reducible refine qcz (by first | exact qkz hpk (by with_unfolding_all rfl) | exact qkz hf (by with_unfolding_all rfl) | exact qkz hch (by with_unfolding_all rfl) | exact qkz hpk2 (by with_unfolding_all rfl) | exact qkz a (by with_unfolding_all rfl) | exact qkz b (by with_unfolding_all rfl)) ?_); intro zh1 zq1; (try simp -dsimp [go_sem] at zq1); obtain ⟨rfl⟩ := zq1) | (with_reducible refine CallZ.z ?_) | simp -dsimp [go_sem, w1])
/-- What is told, and where it stands. -/
theorem allOrder_c (kind : Int) (l : List Raw) (hk : i64 kind) (hl : ∀ r ∈ l, r.Ok) (hn : (l.length : Int) * 48 ≤ 140737488351232) : PCall Try.prog G 18 [iV kind, .one (.v (.sl (l.map Raw.row)))] (bV true) := by
  have hp := pk_range (n := kind) (m := 4) (by omega)
  have hpk := picked_c (G := G) kind 4 hk (by omega)
  have hf := full_c (G := G) (2 + pk kind 4) l (by unfold i64; omega) hl hn
  obtain ⟨ok, hkd⟩ := full2_kind kind l hl
  have w1 : IntKind.i64.wrap (2 + pk kind 4) = 2 + pk kind 4 := IntWalk.i64_in _ (by omega)
  generalize pk kind 4 = p at *
  generalize fullV (2 + p) l = v at *
  have d2 := Do_c (G := G) v allC ok.small
  rw [all_done ok (by omega)] at d2
  have he := (ok.els (by omega)).1
  rw [← allV_len] at he
  have hsm := ok.small
  obtain ⟨vk, vt, vn, vp, vi, vs⟩ := v
  obtain ⟨s1, s2, s3⟩ := hsm
  have c1 := ok.pairs
  have c2 := ok.items
  have c3 := ok.scores
  have r1 := ok.riseP
  have r2 := ok.riseI
  simp only at hkd s1 s2 s3 c1 c2 c3 r1 r2
  have hk4 : vk = 3 ∨ vk = 4 ∨ vk = 5 ∨ vk = 6 := by omega
  rcases hk4 with h | h | h | h <;> subst h
  · obtain ⟨al, hal⟩ : ∃ al, allV ⟨3, vt, vn, vp, vi, vs⟩ = al := ⟨_, rfl⟩
    have hal2 : al = vp.map (·.1) := by rw [← hal]; unfold allV; rw [(c2.resolve_left (by omega)).resolve_left (by omega), c3.resolve_left (by omega)]; simp
    rw [hal] at d2 he
    have hlen : al.length = vp.length := by rw [hal2]; simp
    have q0 : ((al.length : Int) == 0) = false := by rw [beq_eq_false_iff_ne]; omega
    simp only [DoA, Cmd.c, Rep.c, Val.c, allC, List.map_nil] at hf d2
    refine pcall mixed Try.func18 ok_rostrumkeep_AllOrder rs_rostrumkeep_AllOrder (by simp [Try.f18]) ?_
    unfold ac_rostrumkeep_AllOrder
    repeat' (first | (with_reducible first | refine Cnd.intro (fun h => ?_) (fun h => ?_) | refine And.intro ?_ ?_ | refine Wk.refl ?_ | exact Weak.refl _ _ | refine weak_auto ?_ | apply awp_join) | ((try with_reducible refine CallZ.l ?_); with_reducible refine qcf (by first | exact hpk | exact hf | exact d2) ?_ ?_) | ((try with_reducible refine CallZ.l ?_); with_reducible refine qcn (by first | exact qkc hpk (by with_unfolding_all rfl) | exact qkc hf (by with_unfolding_all rfl) | exact qkc d2 (by with_unfolding_all rfl)) ?_) | ((with_reducible refine qcz (by first | exact qkz hpk (by with_unfolding_all rfl) | exact qkz hf (by with_unfolding_all rfl) | exact qkz d2 (by with_unfolding_all rfl)) ?_); intro zh1 zq1; (try simp -dsimp [go_sem] at zq1); obtain ⟨rfl⟩ := zq1) | (with_reducible refine CallZ.z ?_) | simp -dsimp [go_sem, w1, q0])
    refine awp_loop (fun i : Nat => ⟨[(5, .one (.ptr 0 0)), (7, .one (.ptr 1 0)), (9, iV i)], G, [some (.box 29 [iC 3, sC vt, iC vn, .v (.sl (pR vp)), .v (.sl (strRows vi)), .v (.sl (sR vs))]), some (.box 37 [iC 0, sC ⟨#[]⟩, iC 0, .v (.sl (strRows al))])]⟩) (fun i => i ≤ al.length) (fun i => al.length - i) 0 (weak_auto ?_) (Nat.zero_le _) ?_
    · simp -dsimp [go_sem]
    · intro i hi
      by_cases hlt : i < al.length
      · have e4 : IntKind.i64.wrap ((i : Int) + 1) = (i : Int) + 1 := IntWalk.i64_in _ (by omega)
        have q1 : decide (i < al.length) = true := by simpa using hlt
        obtain ⟨⟨x, x2⟩, hx⟩ : ∃ x, vp[i]? = some x := ⟨_, List.getElem?_eq_getElem (by omega)⟩
        have ha : al[i]? = some x := by rw [hal2, List.getElem?_map, hx]; rfl
        by_cases h0 : i = 0
        · have q2 : decide (0 < i) = false := by simpa using h0
          repeat' (first | (with_reducible first | refine Cnd.intro (fun h => ?_) (fun h => ?_) | refine And.intro ?_ ?_ | refine Wk.refl ?_ | exact Weak.refl _ _ | refine weak_auto ?_ | apply awp_join) | (with_reducible refine CallZ.z ?_) | simp -dsimp [go_sem, hx, ha, e4, q1, q2])
          all_goals (try omega)
          refine Again.auto (i + 1) ?_ hlt ?_
          · simp -dsimp [go_sem]
          · show al.length - (i + 1) < al.length - i; omega
        · obtain ⟨j, hj⟩ : ∃ j, i = j + 1 := ⟨i - 1, by omega⟩
          have hx' := hx
          rw [hj] at hx'
          obtain ⟨⟨y, y2⟩, hy⟩ : ∃ y, vp[j]? = some y := ⟨_, List.getElem?_eq_getElem (by omega)⟩
          have hb : al[j]? = some y := by rw [hal2, List.getElem?_map, hy]; rfl
          have e5 : IntKind.i64.wrap ((i : Int) - 1) = (j : Int) := by rw [IntWalk.i64_in _ (by omega)]; omega
          have q2 : decide (0 < i) = true := by simp; omega
          have hr : lessB y x = true := by rw [lessB_eq]; simpa using pw_nextS r1 hy hx'
          repeat' (first | (with_reducible first | refine Cnd.intro (fun h => ?_) (fun h => ?_) | refine And.intro ?_ ?_ | refine Wk.refl ?_ | exact Weak.refl _ _ | refine weak_auto ?_ | apply awp_join) | (with_reducible refine CallZ.z ?_) | simp -dsimp [go_sem, hx, ha, hb, e4, e5, q1, q2, hr])
          all_goals (try omega)
          refine Again.auto (i + 1) ?_ hlt ?_
          · simp -dsimp [go_sem]
          · show al.length - (i + 1) < al.length - i; omega
      · have q1 : decide (i < al.length) = false := by simpa using hlt
        repeat' (first | (with_reducible first | refine Cnd.intro (fun h => ?_) (fun h => ?_) | refine And.intro ?_ ?_ | refine Wk.refl ?_ | exact Weak.refl _ _ | refine weak_auto ?_ | apply awp_join) | (with_reducible refine CallZ.z ?_) | simp -dsimp [go_sem, q1])
  · obtain ⟨al, hal⟩ : ∃ al, allV ⟨4, vt, vn, vp, vi, vs⟩ = al := ⟨_, rfl⟩
    have hal2 : al = vi := by rw [← hal]; unfold allV; rw [c1.resolve_left (by omega), c3.resolve_left (by omega)]; simp
    rw [hal] at d2 he
    have hlen : al.length = vi.length := by rw [hal2]
    have q0 : ((al.length : Int) == 0) = false := by rw [beq_eq_false_iff_ne]; omega
    simp only [DoA, Cmd.c, Rep.c, Val.c, allC, List.map_nil] at hf d2
    refine pcall mixed Try.func18 ok_rostrumkeep_AllOrder rs_rostrumkeep_AllOrder (by simp [Try.f18]) ?_
    unfold ac_rostrumkeep_AllOrder
    repeat' (first | (with_reducible first | refine Cnd.intro (fun h => ?_) (fun h => ?_) | refine And.intro ?_ ?_ | refine Wk.refl ?_ | exact Weak.refl _ _ | refine weak_auto ?_ | apply awp_join) | ((try with_reducible refine CallZ.l ?_); with_reducible refine qcf (by first | exact hpk | exact hf | exact d2) ?_ ?_) | ((try with_reducible refine CallZ.l ?_); with_reducible refine qcn (by first | exact qkc hpk (by with_unfolding_all rfl) | exact qkc hf (by with_unfolding_all rfl) | exact qkc d2 (by with_unfolding_all rfl)) ?_) | ((with_reducible refine qcz (by first | exact qkz hpk (by with_unfolding_all rfl) | exact qkz hf (by with_unfolding_all rfl) | exact qkz d2 (by with_unfolding_all rfl)) ?_); intro zh1 zq1; (try simp -dsimp [go_sem] at zq1); obtain ⟨rfl⟩ := zq1) | (with_reducible refine CallZ.z ?_) | simp -dsimp [go_sem, w1, q0])
    refine awp_loop (fun i : Nat => ⟨[(5, .one (.ptr 0 0)), (7, .one (.ptr 1 0)), (9, iV i)], G, [some (.box 29 [iC 4, sC vt, iC vn, .v (.sl (pR vp)), .v (.sl (strRows vi)), .v (.sl (sR vs))]), some (.box 37 [iC 0, sC ⟨#[]⟩, iC 0, .v (.sl (strRows al))])]⟩) (fun i => i ≤ al.length) (fun i => al.length - i) 0 (weak_auto ?_) (Nat.zero_le _) ?_
    · simp -dsimp [go_sem]
    · intro i hi
      by_cases hlt : i < al.length
      · have e4 : IntKind.i64.wrap ((i : Int) + 1) = (i : Int) + 1 := IntWalk.i64_in _ (by omega)
        have q1 : decide (i < al.length) = true := by simpa using hlt
        obtain ⟨x, hx⟩ : ∃ x, vi[i]? = some x := ⟨_, List.getElem?_eq_getElem (by omega)⟩
        have ha : al[i]? = some x := by rw [hal2]; exact hx
        by_cases h0 : i = 0
        · have q2 : decide (0 < i) = false := by simpa using h0
          repeat' (first | (with_reducible first | refine Cnd.intro (fun h => ?_) (fun h => ?_) | refine And.intro ?_ ?_ | refine Wk.refl ?_ | exact Weak.refl _ _ | refine weak_auto ?_ | apply awp_join) | (with_reducible refine CallZ.z ?_) | simp -dsimp [go_sem, hx, ha, e4, q1, q2])
          all_goals (try omega)
          refine Again.auto (i + 1) ?_ hlt ?_
          · simp -dsimp [go_sem]
          · show al.length - (i + 1) < al.length - i; omega
        · obtain ⟨j, hj⟩ : ∃ j, i = j + 1 := ⟨i - 1, by omega⟩
          have hx' := hx
          rw [hj] at hx'
          obtain ⟨y, hy⟩ : ∃ y, vi[j]? = some y := ⟨_, List.getElem?_eq_getElem (by omega)⟩
          have hb : al[j]? = some y := by rw [hal2]; exact hy
          have e5 : IntKind.i64.wrap ((i : Int) - 1) = (j : Int) := by rw [IntWalk.i64_in _ (by omega)]; omega
          have q2 : decide (0 < i) = true := by simp; omega
          repeat' (first | (with_reducible first | refine Cnd.intro (fun h => ?_) (fun h => ?_) | refine And.intro ?_ ?_ | refine Wk.refl ?_ | exact Weak.refl _ _ | refine weak_auto ?_ | apply awp_join) | (with_reducible refine CallZ.z ?_) | simp -dsimp [go_sem, hx, ha, hb, e4, e5, q1, q2])
          all_goals (try omega)
          refine Again.auto (i + 1) ?_ hlt ?_
          · simp -dsimp [go_sem]
          · show al.length - (i + 1) < al.length - i; omega
      · have q1 : decide (i < al.length) = false := by simpa using hlt
        repeat' (first | (with_reducible first | refine Cnd.intro (fun h => ?_) (fun h => ?_) | refine And.intro ?_ ?_ | refine Wk.refl ?_ | exact Weak.refl _ _ | refine weak_auto ?_ | apply awp_join) | (with_reducible refine CallZ.z ?_) | simp -dsimp [go_sem, q1])
  · obtain ⟨al, hal⟩ : ∃ al, allV ⟨5, vt, vn, vp, vi, vs⟩ = al := ⟨_, rfl⟩
    have hal2 : al = vi := by rw [← hal]; unfold allV; rw [c1.resolve_left (by omega), c3.resolve_left (by omega)]; simp
    rw [hal] at d2 he
    have hlen : al.length = vi.length := by rw [hal2]
    have q0 : ((al.length : Int) == 0) = false := by rw [beq_eq_false_iff_ne]; omega
    simp only [DoA, Cmd.c, Rep.c, Val.c, allC, List.map_nil] at hf d2
    refine pcall mixed Try.func18 ok_rostrumkeep_AllOrder rs_rostrumkeep_AllOrder (by simp [Try.f18]) ?_
    unfold ac_rostrumkeep_AllOrder
    repeat' (first | (with_reducible first | refine Cnd.intro (fun h => ?_) (fun h => ?_) | refine And.intro ?_ ?_ | refine Wk.refl ?_ | exact Weak.refl _ _ | refine weak_auto ?_ | apply awp_join) | ((try with_reducible refine CallZ.l ?_); with_reducible refine qcf (by first | exact hpk | exact hf | exact d2) ?_ ?_) | ((try with_reducible refine CallZ.l ?_); with_reducible refine qcn (by first | exact qkc hpk (by with_unfolding_all rfl) | exact qkc hf (by with_unfolding_all rfl) | exact qkc d2 (by with_unfolding_all rfl)) ?_) | ((with_reducible refine qcz (by first | exact qkz hpk (by with_unfolding_all rfl) | exact qkz hf (by with_unfolding_all rfl) | exact qkz d2 (by with_unfolding_all rfl)) ?_); intro zh1 zq1; (try simp -dsimp [go_sem] at zq1); obtain ⟨rfl⟩ := zq1) | (with_reducible refine CallZ.z ?_) | simp -dsimp [go_sem, w1, q0])
    refine awp_loop (fun i : Nat => ⟨[(5, .one (.ptr 0 0)), (7, .one (.ptr 1 0)), (9, iV i)], G, [some (.box 29 [iC 5, sC vt, iC vn, .v (.sl (pR vp)), .v (.sl (strRows vi)), .v (.sl (sR vs))]), some (.box 37 [iC 0, sC ⟨#[]⟩, iC 0, .v (.sl (strRows al))])]⟩) (fun i => i ≤ al.length) (fun i => al.length - i) 0 (weak_auto ?_) (Nat.zero_le _) ?_
    · simp -dsimp [go_sem]
    · intro i hi
      by_cases hlt : i < al.length
      · have e4 : IntKind.i64.wrap ((i : Int) + 1) = (i : Int) + 1 := IntWalk.i64_in _ (by omega)
        have q1 : decide (i < al.length) = true := by simpa using hlt
        obtain ⟨x, hx⟩ : ∃ x, vi[i]? = some x := ⟨_, List.getElem?_eq_getElem (by omega)⟩
        have ha : al[i]? = some x := by rw [hal2]; exact hx
        by_cases h0 : i = 0
        · have q2 : decide (0 < i) = false := by simpa using h0
          repeat' (first | (with_reducible first | refine Cnd.intro (fun h => ?_) (fun h => ?_) | refine And.intro ?_ ?_ | refine Wk.refl ?_ | exact Weak.refl _ _ | refine weak_auto ?_ | apply awp_join) | (with_reducible refine CallZ.z ?_) | simp -dsimp [go_sem, hx, ha, e4, q1, q2])
          all_goals (try omega)
          refine Again.auto (i + 1) ?_ hlt ?_
          · simp -dsimp [go_sem]
          · show al.length - (i + 1) < al.length - i; omega
        · obtain ⟨j, hj⟩ : ∃ j, i = j + 1 := ⟨i - 1, by omega⟩
          have hx' := hx
          rw [hj] at hx'
          obtain ⟨y, hy⟩ : ∃ y, vi[j]? = some y := ⟨_, List.getElem?_eq_getElem (by omega)⟩
          have hb : al[j]? = some y := by rw [hal2]; exact hy
          have e5 : IntKind.i64.wrap ((i : Int) - 1) = (j : Int) := by rw [IntWalk.i64_in _ (by omega)]; omega
          have q2 : decide (0 < i) = true := by simp; omega
          have hr : lessB y x = true := by rw [lessB_eq]; simpa using pw_nextS (r2 rfl) hy hx'
          repeat' (first | (with_reducible first | refine Cnd.intro (fun h => ?_) (fun h => ?_) | refine And.intro ?_ ?_ | refine Wk.refl ?_ | exact Weak.refl _ _ | refine weak_auto ?_ | apply awp_join) | (with_reducible refine CallZ.z ?_) | simp -dsimp [go_sem, hx, ha, hb, e4, e5, q1, q2, hr])
          all_goals (try omega)
          refine Again.auto (i + 1) ?_ hlt ?_
          · simp -dsimp [go_sem]
          · show al.length - (i + 1) < al.length - i; omega
      · have q1 : decide (i < al.length) = false := by simpa using hlt
        repeat' (first | (with_reducible first | refine Cnd.intro (fun h => ?_) (fun h => ?_) | refine And.intro ?_ ?_ | refine Wk.refl ?_ | exact Weak.refl _ _ | refine weak_auto ?_ | apply awp_join) | (with_reducible refine CallZ.z ?_) | simp -dsimp [go_sem, q1])
  · obtain ⟨al, hal⟩ : ∃ al, allV ⟨6, vt, vn, vp, vi, vs⟩ = al := ⟨_, rfl⟩
    have hal2 : al = vs.map (·.1) := by rw [← hal]; unfold allV; rw [(c2.resolve_left (by omega)).resolve_left (by omega), c1.resolve_left (by omega)]; simp
    rw [hal] at d2 he
    have hlen : al.length = vs.length := by rw [hal2]; simp
    have q0 : ((al.length : Int) == 0) = false := by rw [beq_eq_false_iff_ne]; omega
    simp only [DoA, Cmd.c, Rep.c, Val.c, allC, List.map_nil] at hf d2
    refine pcall mixed Try.func18 ok_rostrumkeep_AllOrder rs_rostrumkeep_AllOrder (by simp [Try.f18]) ?_
    unfold ac_rostrumkeep_AllOrder
    repeat' (first | (with_reducible first | refine Cnd.intro (fun h => ?_) (fun h => ?_) | refine And.intro ?_ ?_ | refine Wk.refl ?_ | exact Weak.refl _ _ | refine weak_auto ?_ | apply awp_join) | ((try with_reducible refine CallZ.l ?_); with_reducible refine qcf (by first | exact hpk | exact hf | exact d2) ?_ ?_) | ((try with_reducible refine CallZ.l ?_); with_reducible refine qcn (by first | exact qkc hpk (by with_unfolding_all rfl) | exact qkc hf (by with_unfolding_all rfl) | exact qkc d2 (by with_unfolding_all rfl)) ?_) | ((with_reducible refine qcz (by first | exact qkz hpk (by with_unfolding_all rfl) | exact qkz hf (by with_unfolding_all rfl) | exact qkz d2 (by with_unfolding_all rfl)) ?_); intro zh1 zq1; (try simp -dsimp [go_sem] at zq1); obtain ⟨rfl⟩ := zq1) | (with_reducible refine CallZ.z ?_) | simp -dsimp [go_sem, w1, q0])
    refine awp_loop (fun i : Nat => ⟨[(5, .one (.ptr 0 0)), (7, .one (.ptr 1 0)), (9, iV i)], G, [some (.box 29 [iC 6, sC vt, iC vn, .v (.sl (pR vp)), .v (.sl (strRows vi)), .v (.sl (sR vs))]), some (.box 37 [iC 0, sC ⟨#[]⟩, iC 0, .v (.sl (strRows al))])]⟩) (fun i => i ≤ al.length) (fun i => al.length - i) 0 (weak_auto ?_) (Nat.zero_le _) ?_
    · simp -dsimp [go_sem]
    · intro i hi
      by_cases hlt : i < al.length
      · have e4 : IntKind.i64.wrap ((i : Int) + 1) = (i : Int) + 1 := IntWalk.i64_in _ (by omega)
        have q1 : decide (i < al.length) = true := by simpa using hlt
        obtain ⟨⟨x, x2⟩, hx⟩ : ∃ x, vs[i]? = some x := ⟨_, List.getElem?_eq_getElem (by omega)⟩
        have ha : al[i]? = some x := by rw [hal2, List.getElem?_map, hx]; rfl
        by_cases h0 : i = 0
        · have q2 : decide (0 < i) = false := by simpa using h0
          repeat' (first | (with_reducible first | refine Cnd.intro (fun h => ?_) (fun h => ?_) | refine And.intro ?_ ?_ | refine Wk.refl ?_ | exact Weak.refl _ _ | refine weak_auto ?_ | apply awp_join) | (with_reducible refine CallZ.z ?_) | simp -dsimp [go_sem, hx, ha, e4, q1, q2])
          all_goals (try omega)
          refine Again.auto (i + 1) ?_ hlt ?_
          · simp -dsimp [go_sem]
          · show al.length - (i + 1) < al.length - i; omega
        · obtain ⟨j, hj⟩ : ∃ j, i = j + 1 := ⟨i - 1, by omega⟩
          have hx' := hx
          rw [hj] at hx'
          obtain ⟨⟨y, y2⟩, hy⟩ : ∃ y, vs[j]? = some y := ⟨_, List.getElem?_eq_getElem (by omega)⟩
          have hb : al[j]? = some y := by rw [hal2, List.getElem?_map, hy]; rfl
          have e5 : IntKind.i64.wrap ((i : Int) - 1) = (j : Int) := by rw [IntWalk.i64_in _ (by omega)]; omega
          have q2 : decide (0 < i) = true := by simp; omega
          repeat' (first | (with_reducible first | refine Cnd.intro (fun h => ?_) (fun h => ?_) | refine And.intro ?_ ?_ | refine Wk.refl ?_ | exact Weak.refl _ _ | refine weak_auto ?_ | apply awp_join) | (with_reducible refine CallZ.z ?_) | simp -dsimp [go_sem, hx, ha, hb, e4, e5, q1, q2])
          all_goals (try omega)
          refine Again.auto (i + 1) ?_ hlt ?_
          · simp -dsimp [go_sem]
          · show al.length - (i + 1) < al.length - i; omega
      · have q1 : decide (i < al.length) = false := by simpa using hlt
        repeat' (first | (with_reducible first | refine Cnd.intro (fun h => ?_) (fun h => ?_) | refine And.intro ?_ ?_ | refine Wk.refl ?_ | exact Weak.refl _ _ | refine weak_auto ?_ | apply awp_join) | (with_reducible refine CallZ.z ?_) | simp -dsimp [go_sem, q1])
end Go.Proofs.Ytacdeehkdepiaaa
