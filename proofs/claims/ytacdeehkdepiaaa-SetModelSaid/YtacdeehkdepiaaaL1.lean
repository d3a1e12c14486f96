/- The functions NoneTold, CountRest and CommandBare answer true. -/
import Derived.Test.YtacdeehkdepiaaaJ15
set_option linter.unusedVariables false
set_option linter.unusedSimpArgs false
set_option maxRecDepth 100000
set_option maxHeartbeats 8000000
namespace Go.Proofs.Ytacdeehkdepiaaa
open Go Go.RowKit Go.Proofs.AE
variable {G : Nat → AV}
def ac_rostrumkeep_NoneTold : ACode := .seq (.reg [⟨some 1, .box 24 (.tmp 0), none⟩,
    ⟨some 2, .assign (.const (.bool false)), none⟩]) (.seq (.reg [⟨some 8, .load 24 (.tmp 1), none⟩,
    ⟨some 9, .call { callee := .value (.func 23), args := #[.tmp 8], argTypes := #[24] }, none⟩,
    ⟨some 3, .alloc 34, none⟩,
    ⟨none, .store 34 (.tmp 3) (.tmp 9), none⟩]) (.seq (.reg [⟨some 11, .build 29 #[], none⟩,
    ⟨some 12, .load 34 (.tmp 3), none⟩,
    ⟨some 13, .call { callee := .value (.func 24), args := #[.tmp 11, .tmp 12], argTypes := #[29, 34] }, none⟩,
    ⟨some 10, .move (.tmp 13), none⟩,
    ⟨some 14, .extract (.tmp 10) 0, none⟩,
    ⟨some 15, .extract (.tmp 10) 1, none⟩,
    ⟨some 16, .extract (.tmp 10) 2, none⟩,
    ⟨some 4, .alloc 29, none⟩,
    ⟨some 5, .alloc 37, none⟩,
    ⟨none, .store 29 (.tmp 4) (.tmp 14), none⟩,
    ⟨none, .store 37 (.tmp 5) (.tmp 15), none⟩,
    ⟨some 6, .assign (.tmp 16), none⟩]) (.seq (.seq (.reg [⟨some 17, .fieldAddr 34 (.tmp 3) 0, none⟩,
    ⟨some 18, .load 3 (.tmp 17), none⟩,
    ⟨some 19, .binOp .gtr 3 (.tmp 18) (.const (.int .i64 18)) 3, none⟩]) (.cond (.tmp 19) (.seq (.reg [⟨some 20, .move (.tmp 6), none⟩,
    ⟨some 21, .binOp .eql 31 (.tmp 20) (.const (.int .i64 3)) 31, none⟩,
    ⟨some 22, .move (.tmp 21), none⟩,
    ⟨some 23, .fieldAddr 29 (.tmp 4) 0, some (22, true)⟩,
    ⟨some 24, .load 3 (.tmp 23), some (22, true)⟩,
    ⟨some 25, .binOp .eql 3 (.tmp 24) (.const (.int .i64 0)) 3, some (22, true)⟩,
    ⟨some 26, .pick (.tmp 22) (.tmp 25) (.const (.bool false)), none⟩,
    ⟨some 2, .assign (.tmp 26), none⟩]) .ret) .skip)) (.seq (.reg [⟨some 27, .fieldAddr 34 (.tmp 3) 0, none⟩,
    ⟨some 28, .load 3 (.tmp 27), none⟩,
    ⟨some 29, .binOp .eql 3 (.tmp 28) (.const (.int .i64 1)) 3, none⟩,
    ⟨some 30, .move (.tmp 29), none⟩,
    ⟨some 31, .fieldAddr 34 (.tmp 3) 0, some (30, false)⟩,
    ⟨some 32, .load 3 (.tmp 31), some (30, false)⟩,
    ⟨some 33, .binOp .eql 3 (.tmp 32) (.const (.int .i64 3)) 3, some (30, false)⟩,
    ⟨some 34, .pick (.tmp 30) (.const (.bool true)) (.tmp 33), none⟩,
    ⟨some 35, .move (.tmp 34), none⟩,
    ⟨some 36, .fieldAddr 34 (.tmp 3) 0, some (35, false)⟩,
    ⟨some 37, .load 3 (.tmp 36), some (35, false)⟩,
    ⟨some 38, .binOp .eql 3 (.tmp 37) (.const (.int .i64 4)) 3, some (35, false)⟩,
    ⟨some 39, .pick (.tmp 35) (.const (.bool true)) (.tmp 38), none⟩,
    ⟨some 40, .move (.tmp 39), none⟩,
    ⟨some 41, .fieldAddr 34 (.tmp 3) 0, some (40, false)⟩,
    ⟨some 42, .load 3 (.tmp 41), some (40, false)⟩,
    ⟨some 43, .binOp .eql 3 (.tmp 42) (.const (.int .i64 7)) 3, some (40, false)⟩,
    ⟨some 44, .pick (.tmp 40) (.const (.bool true)) (.tmp 43), none⟩,
    ⟨some 45, .move (.tmp 44), none⟩,
    ⟨some 46, .fieldAddr 34 (.tmp 3) 0, some (45, false)⟩,
    ⟨some 47, .load 3 (.tmp 46), some (45, false)⟩,
    ⟨some 48, .binOp .eql 3 (.tmp 47) (.const (.int .i64 8)) 3, some (45, false)⟩,
    ⟨some 49, .pick (.tmp 45) (.const (.bool true)) (.tmp 48), none⟩,
    ⟨some 50, .move (.tmp 49), none⟩,
    ⟨some 51, .fieldAddr 34 (.tmp 3) 0, some (50, false)⟩,
    ⟨some 52, .load 3 (.tmp 51), some (50, false)⟩,
    ⟨some 53, .binOp .eql 3 (.tmp 52) (.const (.int .i64 11)) 3, some (50, false)⟩,
    ⟨some 54, .pick (.tmp 50) (.const (.bool true)) (.tmp 53), none⟩,
    ⟨some 55, .move (.tmp 54), none⟩,
    ⟨some 56, .fieldAddr 34 (.tmp 3) 0, some (55, false)⟩,
    ⟨some 57, .load 3 (.tmp 56), some (55, false)⟩,
    ⟨some 58, .binOp .eql 3 (.tmp 57) (.const (.int .i64 14)) 3, some (55, false)⟩,
    ⟨some 59, .pick (.tmp 55) (.const (.bool true)) (.tmp 58), none⟩,
    ⟨some 7, .assign (.tmp 59), none⟩]) (.seq (.reg [⟨some 60, .move (.tmp 6), none⟩,
    ⟨some 61, .binOp .eql 31 (.tmp 60) (.const (.int .i64 0)) 31, none⟩,
    ⟨some 62, .move (.tmp 61), none⟩,
    ⟨some 63, .fieldAddr 37 (.tmp 5) 0, some (62, true)⟩,
    ⟨some 64, .load 31 (.tmp 63), some (62, true)⟩,
    ⟨some 65, .binOp .eql 31 (.tmp 64) (.const (.int .i64 5)) 31, some (62, true)⟩,
    ⟨some 66, .move (.tmp 7), some (62, true)⟩,
    ⟨some 67, .unOp .not 4 (.tmp 66), some (62, true)⟩,
    ⟨some 68, .binOp .eql 4 (.tmp 65) (.tmp 67) 4, some (62, true)⟩,
    ⟨some 69, .pick (.tmp 62) (.tmp 68) (.const (.bool false)), none⟩,
    ⟨some 70, .move (.tmp 69), none⟩,
    ⟨some 71, .fieldAddr 29 (.tmp 4) 0, some (70, true)⟩,
    ⟨some 72, .load 3 (.tmp 71), some (70, true)⟩,
    ⟨some 73, .binOp .neq 3 (.tmp 72) (.const (.int .i64 0)) 3, some (70, true)⟩,
    ⟨some 74, .move (.tmp 7), some (70, true)⟩,
    ⟨some 75, .binOp .eql 4 (.tmp 73) (.tmp 74) 4, some (70, true)⟩,
    ⟨some 76, .pick (.tmp 70) (.tmp 75) (.const (.bool false)), none⟩,
    ⟨some 2, .assign (.tmp 76), none⟩]) .ret)))))
theorem rs_rostrumkeep_NoneTold : Try.f12.results.toList = [.tmp 2] := rfl
theorem ok_rostrumkeep_NoneTold : Try.f12.body.bind (comp Try.f12.ntmps) = some ac_rostrumkeep_NoneTold := by kernel_rfl
theorem noneBig {c : Cmd} (hc : checkC c = 0) (hk : 18 < c.kind) : DoV zeroV c = (zeroV, toldR 0, 3) := by
  unfold DoV
  rw [zero_none]
  simp only [Bool.true_eq_false, and_false, if_false]
  rw [if_neg (by rw [hc]; simp), if_pos hk]
theorem okCount_tmod (n : Int) : okCount (n.tmod 1073741824) = true := by
  have h1 := Int.tmod_lt_of_pos n (b := 1073741824) (by omega)
  have h2 : -1073741824 < n.tmod 1073741824 := by
    rcases Int.le_total 0 n with h | h
    · have := Int.tmod_nonneg 1073741824 h; omega
    · have h3 := Int.tmod_lt_of_pos (-n) (b := 1073741824) (by omega)
      rw [Int.neg_tmod] at h3
      omega
  simp only [okCount, Bool.and_eq_true, decide_eq_true_eq]
  omega
/-- What makes something where there is nothing. -/
theorem noneMade {c : Cmd} (hc : checkC c = 0) (hm : makesC c.kind = true) : ∃ w r, DoV zeroV c = (w, r, 0) ∧ w.kind ≠ 0 ∧ r.code = 0 := by
  have hk : c.kind = 1 ∨ c.kind = 3 ∨ c.kind = 4 ∨ c.kind = 7 ∨ c.kind = 8 ∨ c.kind = 11 ∨ c.kind = 14 := by
    unfold makesC at hm; simp at hm; omega
  obtain ⟨_, _, _, hn, _⟩ := checkC_facts hc
  rw [DoV_zero hc (by omega), if_pos hm]
  have key : ∀ q : Val × Rep, q.2.code = 0 → q.1.kind ≠ 0 → (3 ≤ q.1.kind → q.1.els ≠ 0) → ∃ w r, DoEnd zeroV q = (w, r, 0) ∧ w.kind ≠ 0 ∧ r.code = 0 := by
    intro q h1 h2 h3
    exact ⟨q.1, q.2, DoEnd_some h1 (fun h => h3 h.1 h.2), h2, h1⟩
  have ins : ∀ {α : Type} (x : α), insAt [] 0 x = [x] := fun x => by simp [insAt]
  rcases hk with h | h | h | h | h | h | h
  · refine key _ ?_ ?_ ?_ <;> (unfold doV; simp [h, toldR])
  · have h0 : okCount (0 + c.n) = true := by rw [Int.zero_add]; exact hn
    refine key _ ?_ ?_ ?_ <;> (unfold doV; simp [h, toldR, h0, hn, kindOfC])
  · have h1 : hashIn [] c.field = false := rfl
    have h2 : hashAt [] c.field = 0 := rfl
    refine key _ ?_ ?_ ?_ <;> (unfold doV hashV; simp [h, toldR, kindOfC, h1, h2, ins, Val.els])
  · refine key _ ?_ ?_ ?_ <;> (unfold doV listV; simp [h, toldR, kindOfC, Val.els])
  · refine key _ ?_ ?_ ?_ <;> (unfold doV listV; simp [h, toldR, kindOfC, Val.els])
  · have h1 : setIn [] c.text = false := rfl
    have h2 : setAt [] c.text = 0 := rfl
    refine key _ ?_ ?_ ?_ <;> (unfold doV setV; simp [h, toldR, kindOfC, h1, h2, ins, Val.els])
  · have h1 : rankOf [] c.text = -1 := rfl
    have h2 : rankCut [] c.text = [] := rfl
    have h3 : rankAt [] c.text c.n = 0 := rfl
    refine key _ ?_ ?_ ?_ <;> (unfold doV ranksV; simp [h, toldR, kindOfC, h1, h2, h3, ins, Val.els])
theorem zeroA : (AV.agg zeroV.c) = .agg [iC 0, sC ⟨#[]⟩, iC 0, .v (.sl []), .v (.sl []), .v (.sl [])] := rfl
theorem noneTold_c (r : Raw) (h : r.Ok) : PCall Try.prog G 12 [.agg [iC r.kind, iC r.key, iC r.field, iC r.n, sC r.text]] (bV true) := by
  have hc := cmdR_ok h
  have hcm := commandR_c (G := G) r h
  obtain ⟨k1, k2⟩ := cmdR_kind r
  have hdo := Do_c (G := G) zeroV (cmdR r) zeroV_small
  rw [zeroA] at hdo
  obtain ⟨c, hce⟩ : ∃ c, cmdR r = c := ⟨_, rfl⟩
  rw [hce] at hc hcm k1 k2 hdo
  by_cases hb : 18 < c.kind
  · rw [noneBig hc hb] at hdo
    obtain ⟨kk, key, f, tx, cn⟩ := c
    have q1 : decide (18 < kk) = true := by simpa using hb
    simp only [DoA, Cmd.c, Rep.c, Val.c, toldR, zeroV] at hcm hdo
    refine pcall mixed Try.func12 ok_rostrumkeep_NoneTold rs_rostrumkeep_NoneTold (by simp [Try.f12]) ?_
    unfold ac_rostrumkeep_NoneTold
    repeat' (first | (with_reducible first | refine Cnd.intro (fun h => ?_) (fun h => ?_) | refine And.intro ?_ ?_ | refine Wk.refl ?_ | exact Weak.refl _ _ | refine weak_auto ?_ | apply awp_join) | ((try with_reducible refine CallZ.l ?_); with_reducible refine qcf (by first | exact hcm | exact hdo) ?_ ?_) | ((try with_reducible refine CallZ.l ?_); with_reducible refine qcn (by first | exact qkc hcm (by with_unfolding_all rfl) | exact qkc hdo (by with_unfolding_all rfl)) ?_) | ((with_reducible refine qcz (by first | exact qkz hcm (by with_unfolding_all rfl) | exact qkz hdo (by with_unfolding_all rfl)) ?_); intro zh1 zq1; (try simp -dsimp [go_sem] at zq1); obtain ⟨rfl⟩ := zq1) | (with_reducible refine CallZ.z ?_) | simp -dsimp [go_sem, q1])
  · cases hm : makesC c.kind with
    | true =>
      obtain ⟨w, rp, e1, e2, e3⟩ := noneMade hc hm
      rw [e1] at hdo
      have q2 : (w.kind != 0) = true := by simpa using e2
      obtain ⟨kk, key, f, tx, cn⟩ := c
      have q1 : decide (18 < kk) = false := by simpa using hb
      unfold makesC at hm
      simp only [DoA, Cmd.c, Rep.c, Val.c, e3] at hcm hdo
      simp only at hm
      refine pcall mixed Try.func12 ok_rostrumkeep_NoneTold rs_rostrumkeep_NoneTold (by simp [Try.f12]) ?_
      unfold ac_rostrumkeep_NoneTold
      repeat' (first | (with_reducible first | refine Cnd.intro (fun h => ?_) (fun h => ?_) | refine And.intro ?_ ?_ | refine Wk.refl ?_ | exact Weak.refl _ _ | refine weak_auto ?_ | apply awp_join) | ((try with_reducible refine CallZ.l ?_); with_reducible refine qcf (by first | exact hcm | exact hdo) ?_ ?_) | ((try with_reducible refine CallZ.l ?_); with_reducible refine qcn (by first | exact qkc hcm (by with_unfolding_all rfl) | exact qkc hdo (by with_unfolding_all rfl)) ?_) | ((with_reducible refine qcz (by first | exact qkz hcm (by with_unfolding_all rfl) | exact qkz hdo (by with_unfolding_all rfl)) ?_); intro zh1 zq1; (try simp -dsimp [go_sem] at zq1); obtain ⟨rfl⟩ := zq1) | (with_reducible refine CallZ.z ?_) | simp -dsimp [go_sem, q1, q2, e3])
      all_goals (clear hdo hcm; rename_i hx; first | (simpa using hx) | (simp at hm hx; simp_all; done) | (simp_all; done))
    | false =>
      have e1 : DoV zeroV c = (zeroV, failR 5, 0) := by rw [DoV_zero hc (by omega), hm]; simp
      rw [e1] at hdo
      obtain ⟨kk, key, f, tx, cn⟩ := c
      have q1 : decide (18 < kk) = false := by simpa using hb
      unfold makesC at hm
      simp only [DoA, Cmd.c, Rep.c, Val.c, failR, zeroV] at hcm hdo
      simp only at hm
      refine pcall mixed Try.func12 ok_rostrumkeep_NoneTold rs_rostrumkeep_NoneTold (by simp [Try.f12]) ?_
      unfold ac_rostrumkeep_NoneTold
      repeat' (first | (with_reducible first | refine Cnd.intro (fun h => ?_) (fun h => ?_) | refine And.intro ?_ ?_ | refine Wk.refl ?_ | exact Weak.refl _ _ | refine weak_auto ?_ | apply awp_join) | ((try with_reducible refine CallZ.l ?_); with_reducible refine qcf (by first | exact hcm | exact hdo) ?_ ?_) | ((try with_reducible refine CallZ.l ?_); with_reducible refine qcn (by first | exact qkc hcm (by with_unfolding_all rfl) | exact qkc hdo (by with_unfolding_all rfl)) ?_) | ((with_reducible refine qcz (by first | exact qkz hcm (by with_unfolding_all rfl) | exact qkz hdo (by with_unfolding_all rfl)) ?_); intro zh1 zq1; (try simp -dsimp [go_sem] at zq1); obtain ⟨rfl⟩ := zq1) | (with_reducible refine CallZ.z ?_) | simp -dsimp [go_sem, q1])
      all_goals (clear hdo hcm; rename_i hx; first | (simpa using hx) | (simp at hm hx; simp_all; done) | (simp_all; done))
end Go.Proofs.Ytacdeehkdepiaaa
