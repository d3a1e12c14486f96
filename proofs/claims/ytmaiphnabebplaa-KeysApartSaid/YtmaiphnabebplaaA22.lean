/- KeysApart: the walk. -/
import Derived.Test.YtmaiphnabebplaaA15
import Derived.Test.YtmaiphnabebplaaA9
set_option linter.unusedVariables false
set_option linter.unusedSimpArgs false
set_option maxRecDepth 100000
set_option maxHeartbeats 8000000
namespace Go.Proofs.Ytmaiphnabebplaa
open Go Go.RowKit Go.Proofs.AE
def ac_rostrumkeep_KeysApart : ACode := .seq (.reg [⟨some 4, .box 26 (.tmp 1), none⟩,
    ⟨some 6, .assign (.const (.bool false)), none⟩]) (.seq (.reg [⟨some 20, .move (.tmp 0), none⟩,
    ⟨some 21, .call { callee := .value (.func 15), args := #[.tmp 20], argTypes := #[22] }, none⟩,
    ⟨some 7, .alloc 29, none⟩,
    ⟨none, .store 29 (.tmp 7) (.tmp 21), none⟩]) (.seq (.reg [⟨some 22, .fieldAddr 26 (.tmp 4) 0, none⟩,
    ⟨some 23, .load 24 (.tmp 22), none⟩,
    ⟨some 24, .call { callee := .value (.func 18), args := #[.tmp 23], argTypes := #[24] }, none⟩,
    ⟨some 8, .alloc 39, none⟩,
    ⟨none, .store 39 (.tmp 8) (.tmp 24), none⟩]) (.seq (.reg [⟨some 25, .move (.tmp 2), none⟩,
    ⟨some 26, .call { callee := .value (.func 20), args := #[.tmp 25], argTypes := #[3] }, none⟩,
    ⟨some 9, .assign (.tmp 26), none⟩]) (.seq (.reg [⟨some 28, .load 29 (.tmp 7), none⟩,
    ⟨some 29, .fieldAddr 29 (.tmp 7) 0, none⟩,
    ⟨some 30, .load 3 (.tmp 29), none⟩,
    ⟨some 31, .load 39 (.tmp 8), none⟩,
    ⟨some 32, .call { callee := .value (.func 17), args := #[.tmp 28, .tmp 30, .tmp 31], argTypes := #[29, 3, 39] }, none⟩,
    ⟨some 27, .move (.tmp 32), none⟩,
    ⟨some 33, .extract (.tmp 27) 0, none⟩,
    ⟨some 34, .extract (.tmp 27) 1, none⟩,
    ⟨some 35, .extract (.tmp 27) 2, none⟩,
    ⟨some 10, .alloc 29, none⟩,
    ⟨some 11, .alloc 35, none⟩,
    ⟨none, .store 29 (.tmp 10) (.tmp 33), none⟩,
    ⟨none, .store 35 (.tmp 11) (.tmp 34), none⟩,
    ⟨some 12, .assign (.tmp 35), none⟩]) (.seq (.reg [⟨some 37, .load 29 (.tmp 7), none⟩,
    ⟨some 38, .move (.tmp 9), none⟩,
    ⟨some 39, .call { callee := .value (.func 21), args := #[.tmp 37, .tmp 38], argTypes := #[29, 9] }, none⟩,
    ⟨some 36, .move (.tmp 39), none⟩,
    ⟨some 40, .extract (.tmp 36) 0, none⟩,
    ⟨some 41, .extract (.tmp 36) 1, none⟩,
    ⟨some 13, .alloc 49, none⟩,
    ⟨none, .store 49 (.tmp 13) (.tmp 40), none⟩,
    ⟨some 14, .assign (.tmp 41), none⟩]) (.seq (.reg [⟨some 43, .load 29 (.tmp 10), none⟩,
    ⟨some 44, .move (.tmp 9), none⟩,
    ⟨some 45, .call { callee := .value (.func 21), args := #[.tmp 43, .tmp 44], argTypes := #[29, 9] }, none⟩,
    ⟨some 42, .move (.tmp 45), none⟩,
    ⟨some 46, .extract (.tmp 42) 0, none⟩,
    ⟨some 47, .extract (.tmp 42) 1, none⟩,
    ⟨some 15, .alloc 49, none⟩,
    ⟨none, .store 49 (.tmp 15) (.tmp 46), none⟩,
    ⟨some 16, .assign (.tmp 47), none⟩]) (.seq (.reg [⟨some 49, .load 29 (.tmp 7), none⟩,
    ⟨some 50, .fieldAddr 29 (.tmp 7) 0, none⟩,
    ⟨some 51, .load 3 (.tmp 50), none⟩,
    ⟨some 52, .build 39 #[(0, .const (.int .i64 21)), (1, .const (.string { data := #[110, 111, 119, 104, 101, 114, 101] }))], none⟩,
    ⟨some 53, .call { callee := .value (.func 17), args := #[.tmp 49, .tmp 51, .tmp 52], argTypes := #[29, 3, 39] }, none⟩,
    ⟨some 48, .move (.tmp 53), none⟩,
    ⟨some 54, .extract (.tmp 48) 0, none⟩,
    ⟨some 55, .extract (.tmp 48) 1, none⟩,
    ⟨some 56, .extract (.tmp 48) 2, none⟩,
    ⟨some 17, .alloc 29, none⟩,
    ⟨some 18, .alloc 35, none⟩,
    ⟨none, .store 29 (.tmp 17) (.tmp 54), none⟩,
    ⟨none, .store 35 (.tmp 18) (.tmp 55), none⟩,
    ⟨some 19, .assign (.tmp 56), none⟩]) (.seq (.seq (.reg [⟨some 57, .move (.tmp 12), none⟩,
    ⟨some 58, .binOp .neq 32 (.tmp 57) (.const (.int .i64 0)) 32, none⟩,
    ⟨some 59, .move (.tmp 58), none⟩,
    ⟨some 60, .move (.tmp 19), some (59, false)⟩,
    ⟨some 61, .binOp .neq 32 (.tmp 60) (.const (.int .i64 0)) 32, some (59, false)⟩,
    ⟨some 62, .pick (.tmp 59) (.const (.bool true)) (.tmp 61), none⟩,
    ⟨some 63, .move (.tmp 62), none⟩,
    ⟨some 64, .fieldAddr 35 (.tmp 18) 0, some (63, false)⟩,
    ⟨some 65, .load 32 (.tmp 64), some (63, false)⟩,
    ⟨some 66, .binOp .neq 32 (.tmp 65) (.const (.int .i64 5)) 32, some (63, false)⟩,
    ⟨some 67, .pick (.tmp 63) (.const (.bool true)) (.tmp 66), none⟩]) (.cond (.tmp 67) (.seq (.reg [⟨some 6, .assign (.const (.bool false)), none⟩]) .ret) .skip)) (.seq (.reg [⟨some 68, .fieldAddr 39 (.tmp 8) 1, none⟩,
    ⟨some 69, .load 9 (.tmp 68), none⟩,
    ⟨some 70, .move (.tmp 9), none⟩,
    ⟨some 71, .binOp .eql 9 (.tmp 69) (.tmp 70) 9, none⟩,
    ⟨some 72, .move (.tmp 71), none⟩,
    ⟨some 73, .move (.tmp 14), some (72, false)⟩,
    ⟨some 74, .move (.tmp 16), some (72, false)⟩,
    ⟨some 75, .binOp .eql 4 (.tmp 73) (.tmp 74) 4, some (72, false)⟩,
    ⟨some 76, .move (.tmp 75), some (72, false)⟩,
    ⟨some 77, .fieldAddr 49 (.tmp 13) 2, some (76, true)⟩,
    ⟨some 78, .load 3 (.tmp 77), some (76, true)⟩,
    ⟨some 79, .fieldAddr 49 (.tmp 15) 2, some (76, true)⟩,
    ⟨some 80, .load 3 (.tmp 79), some (76, true)⟩,
    ⟨some 81, .binOp .eql 3 (.tmp 78) (.tmp 80) 3, some (76, true)⟩,
    ⟨some 82, .pick (.tmp 76) (.tmp 81) (.const (.bool false)), some (72, false)⟩,
    ⟨some 83, .move (.tmp 82), some (72, false)⟩,
    ⟨some 84, .fieldAddr 49 (.tmp 13) 1, some (83, true)⟩,
    ⟨some 85, .load 47 (.tmp 84), some (83, true)⟩,
    ⟨some 86, .fieldAddr 49 (.tmp 15) 1, some (83, true)⟩,
    ⟨some 87, .load 47 (.tmp 86), some (83, true)⟩,
    ⟨some 88, .call { callee := .value (.func 22), args := #[.tmp 85, .tmp 87], argTypes := #[47, 47] }, some (83, true)⟩,
    ⟨some 89, .pick (.tmp 83) (.tmp 88) (.const (.bool false)), some (72, false)⟩,
    ⟨some 90, .pick (.tmp 72) (.const (.bool true)) (.tmp 89), none⟩,
    ⟨some 6, .assign (.tmp 90), none⟩]) .ret)))))))))
theorem rs_rostrumkeep_KeysApart : Try.f4.results.toList = [.tmp 6] := rfl
theorem ok_rostrumkeep_KeysApart : Try.f4.body.bind (comp Try.f4.ntmps) = some ac_rostrumkeep_KeysApart := by kernel_rfl
variable {G : Nat → AV}
abbrev nowK : ByteArray := ⟨#[110, 111, 119, 104, 101, 114, 101]⟩
theorem now_none {s : Sto} (h : OkT s) : getE s.ents nowK = none := by
  cases hg : getE s.ents nowK with
  | none => rfl
  | some e =>
    obtain ⟨h1, h2⟩ := getE_mem hg
    have := h.few e h1
    rw [h2] at this
    obtain ⟨i, _, hi⟩ := List.mem_map.1 this
    exact absurd (congrArg ByteArray.size hi) (by show ¬ ((1 : Nat) = 7); omega)
theorem keysApart_c (l : List Stp) (x : Stp) (n : Int) (hl : ∀ x ∈ l, x.Ok) (hll : (l.length : Int) ≤ 9223372036854775807) (hx : x.Ok) (hn : i64 n) : PCall Try.prog G 4 [.one (.v (.sl (l.map Stp.row))), .agg x.c, iV n] (bV true) := by
  have hst := storeK_c (G := G) l hl hll
  obtain ⟨hs, hs2⟩ := storeV_ok l hl
  generalize storeV l = s at *
  have hcm := commandR_c (G := G) x.raw hx.raw
  have hc := cmdR_ok hx.raw
  have hk := cmdR_key x.raw
  generalize cmdR x.raw = c at *
  have hsm := some_c (G := G) n hn
  generalize someS n = k at *
  obtain ⟨e1, o1⟩ := apply_nowT hs hc hk
  obtain ⟨e2, o2⟩ := apply_now hs.ok (lifeC_ok (k := nowK) rfl)
  have h1 := apply_c (G := G) s s.now c hs.ok.small
  have h2 := apply_c (G := G) s s.now (lifeC nowK) hs.ok.small
  have hlf := doE_life hs.ok.rise s.now nowK
  rw [now_none hs] at hlf
  simp only at hlf
  rw [hlf] at e2
  rw [e1] at h1
  rw [e2] at h2
  obtain ⟨z, hd⟩ := doE_did hs.ok.rise s.now c
  generalize doE s.now s.ents c = d at *
  obtain ⟨l1, r⟩ := d
  simp only at hd h1 e1 o1
  have h3 := entry_c (G := G) s k (Nat.le_trans hs.ok.len (by omega))
  have h4 := entry_c (G := G) ⟨s.now, l1⟩ k (Nat.le_trans o1.ok.len (by omega))
  simp only at h4
  by_cases hck : c.key = k
  · have q1 : decide (c.key = k) = true := by simpa using hck
    generalize entO (getE s.ents k) = y at h3
    generalize entO (getE l1 k) = y' at h4
    generalize (getE s.ents k).isSome = b at h3
    generalize (getE l1 k).isSome = b' at h4
    obtain ⟨now, ents⟩ := s
    obtain ⟨yk, ⟨y1, y2, y3, y4, y5, y6⟩, yt⟩ := y
    obtain ⟨zk, ⟨z1, z2, z3, z4, z5, z6⟩, zt⟩ := y'
    obtain ⟨⟨xk, xkey, xf, xn, xt⟩, xw⟩ := x
    simp only [ApA, Sto.c, Cmd.c, Rep.c, lifeC, failR, List.map_nil, Stp.c, Ent.c] at h1 h2 h3 h4 hst hcm ⊢
    refine pcall mixed Try.func4 ok_rostrumkeep_KeysApart rs_rostrumkeep_KeysApart (by simp [Try.f4]) ?_
    unfold ac_rostrumkeep_KeysApart
    repeat' (first | (with_reducible first | refine Cnd.intro (fun h => ?_) (fun h => ?_) | refine And.intro ?_ ?_ | refine Wk.refl ?_ | exact Weak.refl _ _ | refine weak_autoC ?_ | apply awp_join) | ((try with_reducible refine CallZ.l ?_); with_reducible refine qcf (by first | exact hst | exact hcm | exact hsm | exact h1 | exact h2 | exact h3 | exact h4) ?_ ?_) | ((try with_reducible refine CallZ.l ?_); with_reducible refine qcn (by first | exact qkc hst (by with_unfolding_all rfl) | exact qkc hcm (by with_unfolding_all rfl) | exact qkc hsm (by with_unfolding_all rfl) | exact qkc h1 (by with_unfolding_all rfl) | exact qkc h2 (by with_unfolding_all rfl) | exact qkc h3 (by with_unfolding_all rfl) | exact qkc h4 (by with_unfolding_all rfl)) ?_) | ((with_reducible refine qcz (by first | exact qkz hst (by with_unfolding_all rfl) | exact qkz hcm (by with_unfolding_all rfl) | exact qkz hsm (by with_unfolding_all rfl) | exact qkz h1 (by with_unfolding_all rfl) | exact qkz h2 (by with_unfolding_all rfl) | exact qkz h3 (by with_unfolding_all rfl) | exact qkz h4 (by with_unfolding_all rfl)) ?_); intro zh1 zq1; (try simp -dsimp [go_sem] at zq1); obtain ⟨rfl⟩ := zq1) | (with_reducible refine CallZ.z ?_) | simp -dsimp [go_sem, q1, clean_nil, clean_cons, clean_yes, clean_no])
    all_goals trace_state
  · have q1 : decide (c.key = k) = false := by simpa using hck
    rw [hd.other k (fun e => hck e.symm)] at h4
    have hsv : (entO (getE s.ents k)).val.Small := by
      cases hg : getE s.ents k with
      | none => exact zeroV_small
      | some e => exact (hs.ok.all e (getE_mem hg).1).val.small
    generalize entO (getE s.ents k) = y at *
    generalize (getE s.ents k).isSome = b at *
    have h5 := sameValue_c (G := G) y.val y.val hsv
    obtain ⟨now, ents⟩ := s
    obtain ⟨yk, ⟨y1, y2, y3, y4, y5, y6⟩, yt⟩ := y
    obtain ⟨⟨xk, xkey, xf, xn, xt⟩, xw⟩ := x
    simp only [ApA, Sto.c, Cmd.c, Rep.c, lifeC, failR, List.map_nil, Stp.c, Ent.c, Val.c, decide_true] at h1 h2 h3 h4 h5 hst hcm ⊢
    cases b
    · refine pcall mixed Try.func4 ok_rostrumkeep_KeysApart rs_rostrumkeep_KeysApart (by simp [Try.f4]) ?_
      unfold ac_rostrumkeep_KeysApart
      repeat' (first | (with_reducible first | refine Cnd.intro (fun h => ?_) (fun h => ?_) | refine And.intro ?_ ?_ | refine Wk.refl ?_ | exact Weak.refl _ _ | refine weak_autoC ?_ | apply awp_join) | ((try with_reducible refine CallZ.l ?_); with_reducible refine qcf (by first | exact hst | exact hcm | exact hsm | exact h1 | exact h2 | exact h3 | exact h4 | exact h5) ?_ ?_) | ((try with_reducible refine CallZ.l ?_); with_reducible refine qcn (by first | exact qkc hst (by with_unfolding_all rfl) | exact qkc hcm (by with_unfolding_all rfl) | exact qkc hsm (by with_unfolding_all rfl) | exact qkc h1 (by with_unfolding_all rfl) | exact qkc h2 (by with_unfolding_all rfl) | exact qkc h3 (by with_unfolding_all rfl) | exact qkc h4 (by with_unfolding_all rfl) | exact qkc h5 (by with_unfolding_all rfl)) ?_) | ((with_reducible refine qcz (by first | exact qkz hst (by with_unfolding_all rfl) | exact qkz hcm (by with_unfolding_all rfl) | exact qkz hsm (by with_unfolding_all rfl) | exact qkz h1 (by with_unfolding_all rfl) | exact qkz h2 (by with_unfolding_all rfl) | exact qkz h3 (by with_unfolding_all rfl) | exact qkz h4 (by with_unfolding_all rfl) | exact qkz h5 (by with_unfolding_all rfl)) ?_); intro zh1 zq1; (try simp -dsimp [go_sem] at zq1); obtain ⟨rfl⟩ := zq1) | (with_reducible refine CallZ.z ?_) | simp -dsimp [go_sem, q1, clean_nil, clean_cons, clean_yes, clean_no])
      all_goals trace_state
    · refine pcall mixed Try.func4 ok_rostrumkeep_KeysApart rs_rostrumkeep_KeysApart (by simp [Try.f4]) ?_
      unfold ac_rostrumkeep_KeysApart
      repeat' (first | (with_reducible first | refine Cnd.intro (fun h => ?_) (fun h => ?_) | refine And.intro ?_ ?_ | refine Wk.refl ?_ | exact Weak.refl _ _ | refine weak_autoC ?_ | apply awp_join) | ((try with_reducible refine CallZ.l ?_); with_reducible refine qcf (by first | exact hst | exact hcm | exact hsm | exact h1 | exact h2 | exact h3 | exact h4 | exact h5) ?_ ?_) | ((try with_reducible refine CallZ.l ?_); with_reducible refine qcn (by first | exact qkc hst (by with_unfolding_all rfl) | exact qkc hcm (by with_unfolding_all rfl) | exact qkc hsm (by with_unfolding_all rfl) | exact qkc h1 (by with_unfolding_all rfl) | exact qkc h2 (by with_unfolding_all rfl) | exact qkc h3 (by with_unfolding_all rfl) | exact qkc h4 (by with_unfolding_all rfl) | exact qkc h5 (by with_unfolding_all rfl)) ?_) | ((with_reducible refine qcz (by first | exact qkz hst (by with_unfolding_all rfl) | exact qkz hcm (by with_unfolding_all rfl) | exact qkz hsm (by with_unfolding_all rfl) | exact qkz h1 (by with_unfolding_all rfl) | exact qkz h2 (by with_unfolding_all rfl) | exact qkz h3 (by with_unfolding_all rfl) | exact qkz h4 (by with_unfolding_all rfl) | exact qkz h5 (by with_unfolding_all rfl)) ?_); intro zh1 zq1; (try simp -dsimp [go_sem] at zq1); obtain ⟨rfl⟩ := zq1) | (with_reducible refine CallZ.z ?_) | simp -dsimp [go_sem, q1, clean_nil, clean_cons, clean_yes, clean_no])
      all_goals trace_state
end Go.Proofs.Ytmaiphnabebplaa
