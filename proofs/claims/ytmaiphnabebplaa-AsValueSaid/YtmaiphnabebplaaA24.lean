/- AsValue: the walk. -/
import Derived.Test.YtmaiphnabebplaaA15
import Derived.Test.YtmaiphnabebplaaG0
set_option linter.unusedVariables false
set_option linter.unusedSimpArgs false
set_option maxRecDepth 100000
set_option maxHeartbeats 8000000
namespace Go.Proofs.Ytmaiphnabebplaa
open Go Go.RowKit Go.Proofs.AE
def ac_rostrumkeep_AsValue : ACode := .seq (.reg [⟨some 3, .box 26 (.tmp 1), none⟩,
    ⟨some 4, .assign (.const (.bool false)), none⟩]) (.seq (.seq (.reg [⟨some 21, .build 29 #[], none⟩,
    ⟨some 22, .build 39 #[(0, .const (.int .i64 1)), (1, .const (.string { data := #[97] }))], none⟩,
    ⟨some 23, .call { callee := .value (.func 17), args := #[.tmp 21, .const (.int .i64 0), .tmp 22], argTypes := #[29, 3, 39] }, none⟩,
    ⟨some 20, .move (.tmp 23), none⟩,
    ⟨some 24, .extract (.tmp 20) 0, none⟩,
    ⟨some 25, .extract (.tmp 20) 1, none⟩,
    ⟨some 26, .extract (.tmp 20) 2, none⟩,
    ⟨some 5, .alloc 29, none⟩,
    ⟨some 6, .alloc 35, none⟩,
    ⟨none, .store 29 (.tmp 5) (.tmp 24), none⟩,
    ⟨none, .store 35 (.tmp 6) (.tmp 25), none⟩,
    ⟨some 7, .assign (.tmp 26), none⟩]) (.seq (.reg [⟨some 27, .move (.tmp 7), none⟩,
    ⟨some 28, .binOp .neq 32 (.tmp 27) (.const (.int .i64 0)) 32, none⟩,
    ⟨some 29, .move (.tmp 28), none⟩,
    ⟨some 30, .fieldAddr 29 (.tmp 5) 1, some (29, false)⟩,
    ⟨some 31, .load 27 (.tmp 30), some (29, false)⟩,
    ⟨some 32, .call { callee := .builtin .len, args := #[.tmp 31], argTypes := #[27] }, some (29, false)⟩,
    ⟨some 33, .binOp .neq 3 (.tmp 32) (.const (.int .i64 1)) 3, some (29, false)⟩,
    ⟨some 34, .pick (.tmp 29) (.const (.bool true)) (.tmp 33), none⟩]) (.cond (.tmp 34) (.seq (.reg [⟨some 4, .assign (.const (.bool false)), none⟩]) .ret) .skip))) (.seq (.reg [⟨some 35, .move (.tmp 0), none⟩,
    ⟨some 36, .call { callee := .value (.func 15), args := #[.tmp 35], argTypes := #[22] }, none⟩,
    ⟨some 8, .alloc 29, none⟩,
    ⟨none, .store 29 (.tmp 8) (.tmp 36), none⟩]) (.seq (.reg [⟨some 37, .fieldAddr 26 (.tmp 3) 0, none⟩,
    ⟨some 38, .load 24 (.tmp 37), none⟩,
    ⟨some 39, .call { callee := .value (.func 18), args := #[.tmp 38], argTypes := #[24] }, none⟩,
    ⟨some 9, .alloc 39, none⟩,
    ⟨none, .store 39 (.tmp 9) (.tmp 39), none⟩]) (.seq (.seq (.reg [⟨some 40, .fieldAddr 39 (.tmp 9) 0, none⟩,
    ⟨some 41, .load 3 (.tmp 40), none⟩,
    ⟨some 42, .binOp .gtr 3 (.tmp 41) (.const (.int .i64 18)) 3, none⟩]) (.cond (.tmp 42) (.reg [⟨some 43, .build 39 #[(0, .const (.int .i64 7)), (1, .const (.string { data := #[97] })), (3, .const (.string { data := #[120] }))], none⟩,
    ⟨none, .store 39 (.tmp 9) (.tmp 43), none⟩]) .skip)) (.seq (.reg [⟨some 45, .load 29 (.tmp 8), none⟩,
    ⟨some 46, .fieldAddr 39 (.tmp 9) 1, none⟩,
    ⟨some 47, .load 9 (.tmp 46), none⟩,
    ⟨some 48, .call { callee := .value (.func 21), args := #[.tmp 45, .tmp 47], argTypes := #[29, 9] }, none⟩,
    ⟨some 44, .move (.tmp 48), none⟩,
    ⟨some 49, .extract (.tmp 44) 0, none⟩,
    ⟨some 50, .extract (.tmp 44) 1, none⟩,
    ⟨some 10, .alloc 49, none⟩,
    ⟨none, .store 49 (.tmp 10) (.tmp 49), none⟩,
    ⟨some 11, .assign (.tmp 50), none⟩]) (.seq (.reg [⟨some 52, .fieldAddr 49 (.tmp 10) 1, none⟩,
    ⟨some 53, .load 47 (.tmp 52), none⟩,
    ⟨some 54, .load 39 (.tmp 9), none⟩,
    ⟨some 55, .call { callee := .value (.func 23), args := #[.tmp 53, .tmp 54], argTypes := #[47, 39] }, none⟩,
    ⟨some 51, .move (.tmp 55), none⟩,
    ⟨some 56, .extract (.tmp 51) 0, none⟩,
    ⟨some 57, .extract (.tmp 51) 1, none⟩,
    ⟨some 58, .extract (.tmp 51) 2, none⟩,
    ⟨some 12, .alloc 47, none⟩,
    ⟨some 13, .alloc 35, none⟩,
    ⟨none, .store 47 (.tmp 12) (.tmp 56), none⟩,
    ⟨none, .store 35 (.tmp 13) (.tmp 57), none⟩,
    ⟨some 14, .assign (.tmp 58), none⟩]) (.seq (.reg [⟨some 60, .load 29 (.tmp 8), none⟩,
    ⟨some 61, .fieldAddr 29 (.tmp 8) 0, none⟩,
    ⟨some 62, .load 3 (.tmp 61), none⟩,
    ⟨some 63, .load 39 (.tmp 9), none⟩,
    ⟨some 64, .call { callee := .value (.func 17), args := #[.tmp 60, .tmp 62, .tmp 63], argTypes := #[29, 3, 39] }, none⟩,
    ⟨some 59, .move (.tmp 64), none⟩,
    ⟨some 65, .extract (.tmp 59) 0, none⟩,
    ⟨some 66, .extract (.tmp 59) 1, none⟩,
    ⟨some 67, .extract (.tmp 59) 2, none⟩,
    ⟨some 15, .alloc 29, none⟩,
    ⟨some 16, .alloc 35, none⟩,
    ⟨none, .store 29 (.tmp 15) (.tmp 65), none⟩,
    ⟨none, .store 35 (.tmp 16) (.tmp 66), none⟩,
    ⟨some 17, .assign (.tmp 67), none⟩]) (.seq (.reg [⟨some 69, .load 29 (.tmp 15), none⟩,
    ⟨some 70, .fieldAddr 39 (.tmp 9) 1, none⟩,
    ⟨some 71, .load 9 (.tmp 70), none⟩,
    ⟨some 72, .call { callee := .value (.func 21), args := #[.tmp 69, .tmp 71], argTypes := #[29, 9] }, none⟩,
    ⟨some 68, .move (.tmp 72), none⟩,
    ⟨some 73, .extract (.tmp 68) 0, none⟩,
    ⟨some 74, .extract (.tmp 68) 1, none⟩,
    ⟨some 18, .alloc 49, none⟩,
    ⟨none, .store 49 (.tmp 18) (.tmp 73), none⟩,
    ⟨some 19, .assign (.tmp 74), none⟩]) (.seq (.seq (.reg [⟨some 75, .move (.tmp 14), none⟩,
    ⟨some 76, .binOp .neq 32 (.tmp 75) (.const (.int .i64 0)) 32, none⟩,
    ⟨some 77, .move (.tmp 76), none⟩,
    ⟨some 78, .move (.tmp 17), some (77, false)⟩,
    ⟨some 79, .binOp .neq 32 (.tmp 78) (.const (.int .i64 0)) 32, some (77, false)⟩,
    ⟨some 80, .pick (.tmp 77) (.const (.bool true)) (.tmp 79), none⟩]) (.cond (.tmp 80) (.seq (.reg [⟨some 4, .assign (.const (.bool false)), none⟩]) .ret) .skip)) (.seq (.seq (.reg [⟨some 81, .move (.tmp 11), none⟩,
    ⟨some 82, .unOp .not 4 (.tmp 81), none⟩,
    ⟨some 83, .move (.tmp 82), none⟩,
    ⟨some 84, .fieldAddr 29 (.tmp 8) 1, some (83, true)⟩,
    ⟨some 85, .load 27 (.tmp 84), some (83, true)⟩,
    ⟨some 86, .call { callee := .builtin .len, args := #[.tmp 85], argTypes := #[27] }, some (83, true)⟩,
    ⟨some 87, .binOp .eql 3 (.tmp 86) (.const (.int .i64 12)) 3, some (83, true)⟩,
    ⟨some 88, .pick (.tmp 83) (.tmp 87) (.const (.bool false)), none⟩]) (.cond (.tmp 88) (.seq (.reg [⟨some 89, .fieldAddr 35 (.tmp 16) 0, none⟩,
    ⟨some 90, .load 32 (.tmp 89), none⟩,
    ⟨some 91, .binOp .eql 32 (.tmp 90) (.const (.int .i64 6)) 32, none⟩,
    ⟨some 92, .move (.tmp 91), none⟩,
    ⟨some 93, .fieldAddr 35 (.tmp 16) 0, some (92, false)⟩,
    ⟨some 94, .load 32 (.tmp 93), some (92, false)⟩,
    ⟨some 95, .fieldAddr 35 (.tmp 13) 0, some (92, false)⟩,
    ⟨some 96, .load 32 (.tmp 95), some (92, false)⟩,
    ⟨some 97, .binOp .eql 32 (.tmp 94) (.tmp 96) 32, some (92, false)⟩,
    ⟨some 98, .pick (.tmp 92) (.const (.bool true)) (.tmp 97), none⟩,
    ⟨some 4, .assign (.tmp 98), none⟩]) .ret) .skip)) (.seq (.reg [⟨some 99, .load 35 (.tmp 16), none⟩,
    ⟨some 100, .load 35 (.tmp 13), none⟩,
    ⟨some 101, .call { callee := .value (.func 24), args := #[.tmp 99, .tmp 100], argTypes := #[35, 35] }, none⟩,
    ⟨some 102, .move (.tmp 101), none⟩,
    ⟨some 103, .move (.tmp 19), some (102, true)⟩,
    ⟨some 104, .fieldAddr 47 (.tmp 12) 0, some (102, true)⟩,
    ⟨some 105, .load 3 (.tmp 104), some (102, true)⟩,
    ⟨some 106, .binOp .neq 3 (.tmp 105) (.const (.int .i64 0)) 3, some (102, true)⟩,
    ⟨some 107, .binOp .eql 4 (.tmp 103) (.tmp 106) 4, some (102, true)⟩,
    ⟨some 108, .pick (.tmp 102) (.tmp 107) (.const (.bool false)), none⟩,
    ⟨some 109, .move (.tmp 108), none⟩,
    ⟨some 110, .fieldAddr 49 (.tmp 18) 1, some (109, true)⟩,
    ⟨some 111, .load 47 (.tmp 110), some (109, true)⟩,
    ⟨some 112, .load 47 (.tmp 12), some (109, true)⟩,
    ⟨some 113, .call { callee := .value (.func 22), args := #[.tmp 111, .tmp 112], argTypes := #[47, 47] }, some (109, true)⟩,
    ⟨some 114, .pick (.tmp 109) (.tmp 113) (.const (.bool false)), none⟩,
    ⟨some 4, .assign (.tmp 114), none⟩]) .ret)))))))))))
theorem rs_rostrumkeep_AsValue : Try.f5.results.toList = [.tmp 4] := rfl
theorem ok_rostrumkeep_AsValue : Try.f5.body.bind (comp Try.f5.ntmps) = some ac_rostrumkeep_AsValue := by kernel_rfl
variable {G : Nat → AV}
abbrev xT : ByteArray := ⟨#[120]⟩
theorem entO_val (g : Option Ent) : (entO g).val = (g.map Ent.val).getD zeroV := by cases g <;> rfl
theorem as_facts {s : Sto} (h : OkT s) {c : Cmd} (hc : checkC c = 0) (hk : c.kind ≤ 18) (hn : c.key ∈ nine) : ∃ (y y' : Ent) (b b' : Bool) (l' : List Ent) (nv : Val) (nr : Rep),
    PCall Try.prog G 21 [.agg s.c, sV c.key] (.tup [.agg y.c, bV b]) ∧ PCall Try.prog G 23 [.agg y.val.c, .agg c.c] (DoA (nv, nr, 0)) ∧
    PCall Try.prog G 17 [.agg s.c, iV s.now, .agg c.c] (ApA (⟨s.now, l'⟩, nr, 0)) ∧ PCall Try.prog G 21 [.agg (Sto.mk s.now l').c, sV c.key] (.tup [.agg y'.c, bV b']) ∧
    PCall Try.prog G 24 [.agg nr.c, .agg nr.c] (bV true) ∧ PCall Try.prog G 22 [.agg y'.val.c, .agg nv.c] (bV true) ∧ b' = (nv.kind != 0) := by
  obtain ⟨l', e1, o1, hdv, hb, hv, _⟩ := as_value h hc hk hn
  have hold : (((getE s.ents c.key).map Ent.val).getD zeroV).Small := (old_vk h.ok c.key).small
  have hnew : (((getE l' c.key).map Ent.val).getD zeroV).Small := (old_vk o1.ok c.key).small
  have h1 := entry_c (G := G) s c.key (Nat.le_trans h.ok.len (by omega))
  have h2 := Do_c (G := G) _ c hold
  have h3 := apply_c (G := G) s s.now c h.ok.small
  have h4 := entry_c (G := G) ⟨s.now, l'⟩ c.key (Nat.le_trans o1.ok.len (by omega))
  have hr := (apply_okR h.ok h.ok.now.1 h.ok.now.2 hc).len
  rw [e1] at h3 hr
  rw [hdv] at h2
  have h5 := sameReply_c (G := G) (newR s.ents c) (newR s.ents c) (Nat.le_trans hr (by omega))
  have h6 := sameValue_c (G := G) _ (newV s.ents c) hnew
  rw [hv] at h6
  refine ⟨entO (getE s.ents c.key), entO (getE l' c.key), _, _, l', newV s.ents c, newR s.ents c, h1, ?_, h3, h4, ?_, ?_, hb⟩
  · rw [entO_val]; exact h2
  · simpa using h5
  · rw [entO_val, hv]; simpa using h6
theorem put_zero : ∃ l0, ApplyS zeroS 0 (putK aK ⟨#[]⟩) = (⟨0, l0⟩, toldR 0, 0) ∧ l0.length = 1 := by
  obtain ⟨e1, o1⟩ := apply_nowT okT_zero (putK_ok aK_ok (t := ⟨#[]⟩) rfl) (.inr aK_nine)
  obtain ⟨d1, r1⟩ := doE_put (l := zeroS.ents) .nil (fun e he => by cases he) (by decide) zeroS.now (k := aK) (t := ⟨#[]⟩) aK_ok rfl
  rw [r1] at e1
  exact ⟨_, e1, d1.len⟩
theorem asValue_c (l : List Stp) (x : Stp) (hl : ∀ x ∈ l, x.Ok) (hll : (l.length : Int) ≤ 9223372036854775807) (hx : x.Ok) : PCall Try.prog G 5 [.one (.v (.sl (l.map Stp.row))), .agg x.c] (bV true) := by
  have hst := storeK_c (G := G) l hl hll
  obtain ⟨hs, hs2⟩ := storeV_ok l hl
  generalize storeV l = s at *
  have hcm := commandR_c (G := G) x.raw hx.raw
  have hc := cmdR_ok hx.raw
  have hk := cmdR_key x.raw
  generalize cmdR x.raw = c at *
  obtain ⟨l0, e0, n0⟩ := put_zero
  have h0 := apply_c (G := G) zeroS 0 (putK aK ⟨#[]⟩) okS_zero.small
  rw [e0] at h0
  have n12 := ne12 hs
  have q12 : ((s.ents.length : Int) == 12) = false := by rw [beq_eq_false_iff_ne]; omega
  obtain ⟨⟨xk, xkey, xf, xn, xt⟩, xw⟩ := x
  by_cases hb : 18 < c.kind
  · have q18 : decide (18 < c.kind) = true := by simpa using hb
    obtain ⟨y, y', b, b', l', nv, nr, h1, h2, h3, h4, h5, h6, hb'⟩ := as_facts (G := G) hs (c := ⟨7, aK, ⟨#[]⟩, xT, 0⟩) (form_plain (by omega) (by omega) (.inr ⟨by omega, aK_ok⟩) (.inr ⟨by omega, rfl⟩) (.inl ⟨rfl, by omega⟩) (.inr rfl)) (by show (7 : Int) ≤ 18; omega) aK_nine
    obtain ⟨now, ents⟩ := s
    obtain ⟨yk, ⟨y1, y2, y3, y4, y5, y6⟩, yt⟩ := y
    obtain ⟨zk, ⟨z1, z2, z3, z4, z5, z6⟩, zt⟩ := y'
    obtain ⟨v1, v2, v3, v4, v5, v6⟩ := nv
    simp only [ApA, DoA, Sto.c, Cmd.c, Rep.c, Val.c, Ent.c, putK, toldR, aK, xT, zeroS, List.map_nil, Stp.c] at h0 h1 h2 h3 h4 h5 h6 hst hcm q12 ⊢
    simp only at hb'
    by_cases hv : v1 = 0
    · subst hv
      have : b' = false := hb'
      subst this
      cases b
      · refine pcall mixed Try.func5 ok_rostrumkeep_AsValue rs_rostrumkeep_AsValue (by simp [Try.f5]) ?_
        unfold ac_rostrumkeep_AsValue
        repeat' (first | (with_reducible first | refine Cnd.intro (fun h => ?_) (fun h => ?_) | refine And.intro ?_ ?_ | refine Wk.refl ?_ | exact Weak.refl _ _ | refine weak_auto ?_ | apply awp_join) | ((try with_reducible refine CallZ.l ?_); with_reducible refine qcf (by first | exact hst | exact hcm | exact h0 | exact h1 | exact h2 | exact h3 | exact h4 | exact h5 | exact h6) ?_ ?_) | ((try with_reducible refine CallZ.l ?_); with_reducible refine qcn (by first | exact qkc hst (by with_unfolding_all rfl) | exact qkc hcm (by with_unfolding_all rfl) | exact qkc h0 (by with_unfolding_all rfl) | exact qkc h1 (by with_unfolding_all rfl) | exact qkc h2 (by with_unfolding_all rfl) | exact qkc h3 (by with_unfolding_all rfl) | exact qkc h4 (by with_unfolding_all rfl) | exact qkc h5 (by with_unfolding_all rfl) | exact qkc h6 (by with_unfolding_all rfl)) ?_) | ((with_reducible refine qcz (by first | exact qkz hst (by with_unfolding_all rfl) | exact qkz hcm (by with_unfolding_all rfl) | exact qkz h0 (by with_unfolding_all rfl) | exact qkz h1 (by with_unfolding_all rfl) | exact qkz h2 (by with_unfolding_all rfl) | exact qkz h3 (by with_unfolding_all rfl) | exact qkz h4 (by with_unfolding_all rfl) | exact qkz h5 (by with_unfolding_all rfl) | exact qkz h6 (by with_unfolding_all rfl)) ?_); intro zh1 zq1; (try simp -dsimp [go_sem] at zq1); obtain ⟨rfl⟩ := zq1) | (with_reducible refine CallZ.z ?_) | simp -dsimp [go_sem, q12, q18, n0])
        all_goals trace_state
      · refine pcall mixed Try.func5 ok_rostrumkeep_AsValue rs_rostrumkeep_AsValue (by simp [Try.f5]) ?_
        unfold ac_rostrumkeep_AsValue
        repeat' (first | (with_reducible first | refine Cnd.intro (fun h => ?_) (fun h => ?_) | refine And.intro ?_ ?_ | refine Wk.refl ?_ | exact Weak.refl _ _ | refine weak_auto ?_ | apply awp_join) | ((try with_reducible refine CallZ.l ?_); with_reducible refine qcf (by first | exact hst | exact hcm | exact h0 | exact h1 | exact h2 | exact h3 | exact h4 | exact h5 | exact h6) ?_ ?_) | ((try with_reducible refine CallZ.l ?_); with_reducible refine qcn (by first | exact qkc hst (by with_unfolding_all rfl) | exact qkc hcm (by with_unfolding_all rfl) | exact qkc h0 (by with_unfolding_all rfl) | exact qkc h1 (by with_unfolding_all rfl) | exact qkc h2 (by with_unfolding_all rfl) | exact qkc h3 (by with_unfolding_all rfl) | exact qkc h4 (by with_unfolding_all rfl) | exact qkc h5 (by with_unfolding_all rfl) | exact qkc h6 (by with_unfolding_all rfl)) ?_) | ((with_reducible refine qcz (by first | exact qkz hst (by with_unfolding_all rfl) | exact qkz hcm (by with_unfolding_all rfl) | exact qkz h0 (by with_unfolding_all rfl) | exact qkz h1 (by with_unfolding_all rfl) | exact qkz h2 (by with_unfolding_all rfl) | exact qkz h3 (by with_unfolding_all rfl) | exact qkz h4 (by with_unfolding_all rfl) | exact qkz h5 (by with_unfolding_all rfl) | exact qkz h6 (by with_unfolding_all rfl)) ?_); intro zh1 zq1; (try simp -dsimp [go_sem] at zq1); obtain ⟨rfl⟩ := zq1) | (with_reducible refine CallZ.z ?_) | simp -dsimp [go_sem, q12, q18, n0])
        all_goals trace_state
    · have qv : (v1 != (0 : Int)) = true := by simpa using hv
      have : b' = true := by rw [hb']; simpa using hv
      subst this
      cases b
      · refine pcall mixed Try.func5 ok_rostrumkeep_AsValue rs_rostrumkeep_AsValue (by simp [Try.f5]) ?_
        unfold ac_rostrumkeep_AsValue
        repeat' (first | (with_reducible first | refine Cnd.intro (fun h => ?_) (fun h => ?_) | refine And.intro ?_ ?_ | refine Wk.refl ?_ | exact Weak.refl _ _ | refine weak_auto ?_ | apply awp_join) | ((try with_reducible refine CallZ.l ?_); with_reducible refine qcf (by first | exact hst | exact hcm | exact h0 | exact h1 | exact h2 | exact h3 | exact h4 | exact h5 | exact h6) ?_ ?_) | ((try with_reducible refine CallZ.l ?_); with_reducible refine qcn (by first | exact qkc hst (by with_unfolding_all rfl) | exact qkc hcm (by with_unfolding_all rfl) | exact qkc h0 (by with_unfolding_all rfl) | exact qkc h1 (by with_unfolding_all rfl) | exact qkc h2 (by with_unfolding_all rfl) | exact qkc h3 (by with_unfolding_all rfl) | exact qkc h4 (by with_unfolding_all rfl) | exact qkc h5 (by with_unfolding_all rfl) | exact qkc h6 (by with_unfolding_all rfl)) ?_) | ((with_reducible refine qcz (by first | exact qkz hst (by with_unfolding_all rfl) | exact qkz hcm (by with_unfolding_all rfl) | exact qkz h0 (by with_unfolding_all rfl) | exact qkz h1 (by with_unfolding_all rfl) | exact qkz h2 (by with_unfolding_all rfl) | exact qkz h3 (by with_unfolding_all rfl) | exact qkz h4 (by with_unfolding_all rfl) | exact qkz h5 (by with_unfolding_all rfl) | exact qkz h6 (by with_unfolding_all rfl)) ?_); intro zh1 zq1; (try simp -dsimp [go_sem] at zq1); obtain ⟨rfl⟩ := zq1) | (with_reducible refine CallZ.z ?_) | simp -dsimp [go_sem, q12, q18, n0, qv])
        all_goals trace_state
      · refine pcall mixed Try.func5 ok_rostrumkeep_AsValue rs_rostrumkeep_AsValue (by simp [Try.f5]) ?_
        unfold ac_rostrumkeep_AsValue
        repeat' (first | (with_reducible first | refine Cnd.intro (fun h => ?_) (fun h => ?_) | refine And.intro ?_ ?_ | refine Wk.refl ?_ | exact Weak.refl _ _ | refine weak_auto ?_ | apply awp_join) | ((try with_reducible refine CallZ.l ?_); with_reducible refine qcf (by first | exact hst | exact hcm | exact h0 | exact h1 | exact h2 | exact h3 | exact h4 | exact h5 | exact h6) ?_ ?_) | ((try with_reducible refine CallZ.l ?_); with_reducible refine qcn (by first | exact qkc hst (by with_unfolding_all rfl) | exact qkc hcm (by with_unfolding_all rfl) | exact qkc h0 (by with_unfolding_all rfl) | exact qkc h1 (by with_unfolding_all rfl) | exact qkc h2 (by with_unfolding_all rfl) | exact qkc h3 (by with_unfolding_all rfl) | exact qkc h4 (by with_unfolding_all rfl) | exact qkc h5 (by with_unfolding_all rfl) | exact qkc h6 (by with_unfolding_all rfl)) ?_) | ((with_reducible refine qcz (by first | exact qkz hst (by with_unfolding_all rfl) | exact qkz hcm (by with_unfolding_all rfl) | exact qkz h0 (by with_unfolding_all rfl) | exact qkz h1 (by with_unfolding_all rfl) | exact qkz h2 (by with_unfolding_all rfl) | exact qkz h3 (by with_unfolding_all rfl) | exact qkz h4 (by with_unfolding_all rfl) | exact qkz h5 (by with_unfolding_all rfl) | exact qkz h6 (by with_unfolding_all rfl)) ?_); intro zh1 zq1; (try simp -dsimp [go_sem] at zq1); obtain ⟨rfl⟩ := zq1) | (with_reducible refine CallZ.z ?_) | simp -dsimp [go_sem, q12, q18, n0, qv])
        all_goals trace_state
  · have q18 : decide (18 < c.kind) = false := by simpa using hb
    have hkey : c.key ∈ nine := hk.resolve_left (by omega)
    obtain ⟨y, y', b, b', l', nv, nr, h1, h2, h3, h4, h5, h6, hb'⟩ := as_facts (G := G) hs hc (by omega) hkey
    obtain ⟨now, ents⟩ := s
    obtain ⟨yk, ⟨y1, y2, y3, y4, y5, y6⟩, yt⟩ := y
    obtain ⟨zk, ⟨z1, z2, z3, z4, z5, z6⟩, zt⟩ := y'
    obtain ⟨v1, v2, v3, v4, v5, v6⟩ := nv
    simp only [ApA, DoA, Sto.c, Cmd.c, Rep.c, Val.c, Ent.c, putK, toldR, aK, zeroS, List.map_nil, Stp.c] at h0 h1 h2 h3 h4 h5 h6 hst hcm q12 ⊢
    simp only at hb'
    by_cases hv : v1 = 0
    · subst hv
      have : b' = false := hb'
      subst this
      cases b
      · refine pcall mixed Try.func5 ok_rostrumkeep_AsValue rs_rostrumkeep_AsValue (by simp [Try.f5]) ?_
        unfold ac_rostrumkeep_AsValue
        repeat' (first | (with_reducible first | refine Cnd.intro (fun h => ?_) (fun h => ?_) | refine And.intro ?_ ?_ | refine Wk.refl ?_ | exact Weak.refl _ _ | refine weak_auto ?_ | apply awp_join) | ((try with_reducible refine CallZ.l ?_); with_reducible refine qcf (by first | exact hst | exact hcm | exact h0 | exact h1 | exact h2 | exact h3 | exact h4 | exact h5 | exact h6) ?_ ?_) | ((try with_reducible refine CallZ.l ?_); with_reducible refine qcn (by first | exact qkc hst (by with_unfolding_all rfl) | exact qkc hcm (by with_unfolding_all rfl) | exact qkc h0 (by with_unfolding_all rfl) | exact qkc h1 (by with_unfolding_all rfl) | exact qkc h2 (by with_unfolding_all rfl) | exact qkc h3 (by with_unfolding_all rfl) | exact qkc h4 (by with_unfolding_all rfl) | exact qkc h5 (by with_unfolding_all rfl) | exact qkc h6 (by with_unfolding_all rfl)) ?_) | ((with_reducible refine qcz (by first | exact qkz hst (by with_unfolding_all rfl) | exact qkz hcm (by with_unfolding_all rfl) | exact qkz h0 (by with_unfolding_all rfl) | exact qkz h1 (by with_unfolding_all rfl) | exact qkz h2 (by with_unfolding_all rfl) | exact qkz h3 (by with_unfolding_all rfl) | exact qkz h4 (by with_unfolding_all rfl) | exact qkz h5 (by with_unfolding_all rfl) | exact qkz h6 (by with_unfolding_all rfl)) ?_); intro zh1 zq1; (try simp -dsimp [go_sem] at zq1); obtain ⟨rfl⟩ := zq1) | (with_reducible refine CallZ.z ?_) | simp -dsimp [go_sem, q12, q18, n0])
        all_goals trace_state
      · refine pcall mixed Try.func5 ok_rostrumkeep_AsValue rs_rostrumkeep_AsValue (by simp [Try.f5]) ?_
        unfold ac_rostrumkeep_AsValue
        repeat' (first | (with_reducible first | refine Cnd.intro (fun h => ?_) (fun h => ?_) | refine And.intro ?_ ?_ | refine Wk.refl ?_ | exact Weak.refl _ _ | refine weak_auto ?_ | apply awp_join) | ((try with_reducible refine CallZ.l ?_); with_reducible refine qcf (by first | exact hst | exact hcm | exact h0 | exact h1 | exact h2 | exact h3 | exact h4 | exact h5 | exact h6) ?_ ?_) | ((try with_reducible refine CallZ.l ?_); with_reducible refine qcn (by first | exact qkc hst (by with_unfolding_all rfl) | exact qkc hcm (by with_unfolding_all rfl) | exact qkc h0 (by with_unfolding_all rfl) | exact qkc h1 (by with_unfolding_all rfl) | exact qkc h2 (by with_unfolding_all rfl) | exact qkc h3 (by with_unfolding_all rfl) | exact qkc h4 (by with_unfolding_all rfl) | exact qkc h5 (by with_unfolding_all rfl) | exact qkc h6 (by with_unfolding_all rfl)) ?_) | ((with_reducible refine qcz (by first | exact qkz hst (by with_unfolding_all rfl) | exact qkz hcm (by with_unfolding_all rfl) | exact qkz h0 (by with_unfolding_all rfl) | exact qkz h1 (by with_unfolding_all rfl) | exact qkz h2 (by with_unfolding_all rfl) | exact qkz h3 (by with_unfolding_all rfl) | exact qkz h4 (by with_unfolding_all rfl) | exact qkz h5 (by with_unfolding_all rfl) | exact qkz h6 (by with_unfolding_all rfl)) ?_); intro zh1 zq1; (try simp -dsimp [go_sem] at zq1); obtain ⟨rfl⟩ := zq1) | (with_reducible refine CallZ.z ?_) | simp -dsimp [go_sem, q12, q18, n0])
        all_goals trace_state
    · have qv : (v1 != (0 : Int)) = true := by simpa using hv
      have : b' = true := by rw [hb']; simpa using hv
      subst this
      cases b
      · refine pcall mixed Try.func5 ok_rostrumkeep_AsValue rs_rostrumkeep_AsValue (by simp [Try.f5]) ?_
        unfold ac_rostrumkeep_AsValue
        repeat' (first | (with_reducible first | refine Cnd.intro (fun h => ?_) (fun h => ?_) | refine And.intro ?_ ?_ | refine Wk.refl ?_ | exact Weak.refl _ _ | refine weak_auto ?_ | apply awp_join) | ((try with_reducible refine CallZ.l ?_); with_reducible refine qcf (by first | exact hst | exact hcm | exact h0 | exact h1 | exact h2 | exact h3 | exact h4 | exact h5 | exact h6) ?_ ?_) | ((try with_reducible refine CallZ.l ?_); with_reducible refine qcn (by first | exact qkc hst (by with_unfolding_all rfl) | exact qkc hcm (by with_unfolding_all rfl) | exact qkc h0 (by with_unfolding_all rfl) | exact qkc h1 (by with_unfolding_all rfl) | exact qkc h2 (by with_unfolding_all rfl) | exact qkc h3 (by with_unfolding_all rfl) | exact qkc h4 (by with_unfolding_all rfl) | exact qkc h5 (by with_unfolding_all rfl) | exact qkc h6 (by with_unfolding_all rfl)) ?_) | ((with_reducible refine qcz (by first | exact qkz hst (by with_unfolding_all rfl) | exact qkz hcm (by with_unfolding_all rfl) | exact qkz h0 (by with_unfolding_all rfl) | exact qkz h1 (by with_unfolding_all rfl) | exact qkz h2 (by with_unfolding_all rfl) | exact qkz h3 (by with_unfolding_all rfl) | exact qkz h4 (by with_unfolding_all rfl) | exact qkz h5 (by with_unfolding_all rfl) | exact qkz h6 (by with_unfolding_all rfl)) ?_); intro zh1 zq1; (try simp -dsimp [go_sem] at zq1); obtain ⟨rfl⟩ := zq1) | (with_reducible refine CallZ.z ?_) | simp -dsimp [go_sem, q12, q18, n0, qv])
        all_goals trace_state
      · refine pcall mixed Try.func5 ok_rostrumkeep_AsValue rs_rostrumkeep_AsValue (by simp [Try.f5]) ?_
        unfold ac_rostrumkeep_AsValue
        repeat' (first | (with_reducible first | refine Cnd.intro (fun h => ?_) (fun h => ?_) | refine And.intro ?_ ?_ | refine Wk.refl ?_ | exact Weak.refl _ _ | refine weak_auto ?_ | apply awp_join) | ((try with_reducible refine CallZ.l ?_); with_reducible refine qcf (by first | exact hst | exact hcm | exact h0 | exact h1 | exact h2 | exact h3 | exact h4 | exact h5 | exact h6) ?_ ?_) | ((try with_reducible refine CallZ.l ?_); with_reducible refine qcn (by first | exact qkc hst (by with_unfolding_all rfl) | exact qkc hcm (by with_unfolding_all rfl) | exact qkc h0 (by with_unfolding_all rfl) | exact qkc h1 (by with_unfolding_all rfl) | exact qkc h2 (by with_unfolding_all rfl) | exact qkc h3 (by with_unfolding_all rfl) | exact qkc h4 (by with_unfolding_all rfl) | exact qkc h5 (by with_unfolding_all rfl) | exact qkc h6 (by with_unfolding_all rfl)) ?_) | ((with_reducible refine qcz (by first | exact qkz hst (by with_unfolding_all rfl) | exact qkz hcm (by with_unfolding_all rfl) | exact qkz h0 (by with_unfolding_all rfl) | exact qkz h1 (by with_unfolding_all rfl) | exact qkz h2 (by with_unfolding_all rfl) | exact qkz h3 (by with_unfolding_all rfl) | exact qkz h4 (by with_unfolding_all rfl) | exact qkz h5 (by with_unfolding_all rfl) | exact qkz h6 (by with_unfolding_all rfl)) ?_); intro zh1 zq1; (try simp -dsimp [go_sem] at zq1); obtain ⟨rfl⟩ := zq1) | (with_reducible refine CallZ.z ?_) | simp -dsimp [go_sem, q12, q18, n0, qv])
        all_goals trace_state
end Go.Proofs.Ytmaiphnabebplaa
