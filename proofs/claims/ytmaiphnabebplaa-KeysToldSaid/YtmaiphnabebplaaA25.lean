/- KeysTold: the walk. -/
import Derived.Test.YtmaiphnabebplaaA15
import Derived.Test.YtmaiphnabebplaaA9
set_option linter.unusedVariables false
set_option linter.unusedSimpArgs false
set_option maxRecDepth 100000
set_option maxHeartbeats 8000000
namespace Go.Proofs.Ytmaiphnabebplaa
open Go Go.RowKit Go.Proofs.AE
def ac_rostrumkeep_KeysTold : ACode := .seq (.reg [⟨some 2, .assign (.const (.bool false)), none⟩]) (.seq (.reg [⟨some 8, .move (.tmp 0), none⟩,
    ⟨some 9, .move (.tmp 0), none⟩,
    ⟨some 10, .call { callee := .builtin .len, args := #[.tmp 9], argTypes := #[22] }, none⟩,
    ⟨some 11, .call { callee := .builtin .min, args := #[.tmp 10, .const (.int .i64 39)], argTypes := #[3, 3] }, none⟩,
    ⟨some 12, .slice 22 (.tmp 8) none (some (.tmp 11)) none, none⟩,
    ⟨some 13, .call { callee := .builtin .append, args := #[.const (.slice none 0 0), .tmp 12], argTypes := #[22, 22] }, none⟩,
    ⟨some 14, .build 24 #[(0, .const (.int .i64 0))], none⟩,
    ⟨some 15, .build 26 #[(0, .tmp 14)], none⟩,
    ⟨some 16, .buildSlice 22 1 #[(0, .tmp 15)], none⟩,
    ⟨some 17, .call { callee := .builtin .append, args := #[.tmp 13, .tmp 16], argTypes := #[22, 22] }, none⟩,
    ⟨some 18, .call { callee := .value (.func 15), args := #[.tmp 17], argTypes := #[22] }, none⟩,
    ⟨some 3, .alloc 29, none⟩,
    ⟨none, .store 29 (.tmp 3) (.tmp 18), none⟩]) (.seq (.reg [⟨some 20, .load 29 (.tmp 3), none⟩,
    ⟨some 21, .fieldAddr 29 (.tmp 3) 0, none⟩,
    ⟨some 22, .load 3 (.tmp 21), none⟩,
    ⟨some 23, .build 39 #[(0, .const (.int .i64 22))], none⟩,
    ⟨some 24, .call { callee := .value (.func 17), args := #[.tmp 20, .tmp 22, .tmp 23], argTypes := #[29, 3, 39] }, none⟩,
    ⟨some 19, .move (.tmp 24), none⟩,
    ⟨some 25, .extract (.tmp 19) 0, none⟩,
    ⟨some 26, .extract (.tmp 19) 1, none⟩,
    ⟨some 27, .extract (.tmp 19) 2, none⟩,
    ⟨some 4, .alloc 29, none⟩,
    ⟨some 5, .alloc 35, none⟩,
    ⟨none, .store 29 (.tmp 4) (.tmp 25), none⟩,
    ⟨none, .store 35 (.tmp 5) (.tmp 26), none⟩,
    ⟨some 6, .assign (.tmp 27), none⟩]) (.seq (.seq (.reg [⟨some 28, .move (.tmp 6), none⟩,
    ⟨some 29, .binOp .neq 32 (.tmp 28) (.const (.int .i64 0)) 32, none⟩,
    ⟨some 30, .move (.tmp 29), none⟩,
    ⟨some 31, .fieldAddr 35 (.tmp 5) 3, some (30, false)⟩,
    ⟨some 32, .load 33 (.tmp 31), some (30, false)⟩,
    ⟨some 33, .call { callee := .builtin .len, args := #[.tmp 32], argTypes := #[33] }, some (30, false)⟩,
    ⟨some 34, .fieldAddr 29 (.tmp 3) 1, some (30, false)⟩,
    ⟨some 35, .load 27 (.tmp 34), some (30, false)⟩,
    ⟨some 36, .call { callee := .builtin .len, args := #[.tmp 35], argTypes := #[27] }, some (30, false)⟩,
    ⟨some 37, .binOp .neq 3 (.tmp 33) (.tmp 36) 3, some (30, false)⟩,
    ⟨some 38, .pick (.tmp 30) (.const (.bool true)) (.tmp 37), none⟩,
    ⟨some 39, .move (.tmp 38), none⟩,
    ⟨some 40, .load 29 (.tmp 3), some (39, false)⟩,
    ⟨some 41, .load 29 (.tmp 4), some (39, false)⟩,
    ⟨some 42, .call { callee := .value (.func 25), args := #[.tmp 40, .tmp 41], argTypes := #[29, 29] }, some (39, false)⟩,
    ⟨some 43, .unOp .not 4 (.tmp 42), some (39, false)⟩,
    ⟨some 44, .pick (.tmp 39) (.const (.bool true)) (.tmp 43), none⟩,
    ⟨some 45, .move (.tmp 44), none⟩,
    ⟨some 46, .fieldAddr 35 (.tmp 5) 3, some (45, false)⟩,
    ⟨some 47, .load 33 (.tmp 46), some (45, false)⟩,
    ⟨some 48, .call { callee := .builtin .len, args := #[.tmp 47], argTypes := #[33] }, some (45, false)⟩,
    ⟨some 49, .binOp .eql 3 (.tmp 48) (.const (.int .i64 0)) 3, some (45, false)⟩,
    ⟨some 50, .pick (.tmp 45) (.const (.bool true)) (.tmp 49), none⟩]) (.cond (.tmp 50) (.seq (.reg [⟨some 2, .assign (.const (.bool false)), none⟩]) .ret) .skip)) (.seq (.seq (.reg [⟨some 7, .assign (.const (.int .i64 0)), none⟩]) (.block 0 (.loop (.seq (.seq (.reg [⟨some 51, .move (.tmp 7), none⟩,
    ⟨some 52, .fieldAddr 35 (.tmp 5) 3, none⟩,
    ⟨some 53, .load 33 (.tmp 52), none⟩,
    ⟨some 54, .call { callee := .builtin .len, args := #[.tmp 53], argTypes := #[33] }, none⟩,
    ⟨some 55, .binOp .lss 3 (.tmp 51) (.tmp 54) 3, none⟩]) (.cond (.tmp 55) .skip (.exit 0))) (.seq (.block 1 (.seq (.regD [([⟨some 58, .fieldAddr 35 (.tmp 5) 3, none⟩,
    ⟨some 59, .load 33 (.tmp 58), none⟩,
    ⟨some 60, .move (.tmp 7), none⟩,
    ⟨some 61, .indexAddr 33 (.tmp 59) (.tmp 60), none⟩,
    ⟨some 62, .load 9 (.tmp 61), none⟩,
    ⟨some 63, .fieldAddr 29 (.tmp 3) 1, none⟩,
    ⟨some 64, .load 27 (.tmp 63), none⟩,
    ⟨some 65, .move (.tmp 7), none⟩,
    ⟨some 66, .indexAddr 27 (.tmp 64) (.tmp 65), none⟩,
    ⟨some 67, .fieldAddr 49 (.tmp 66) 0, none⟩,
    ⟨some 68, .load 9 (.tmp 67), none⟩,
    ⟨some 69, .binOp .neq 9 (.tmp 62) (.tmp 68) 9, none⟩,
    ⟨some 70, .move (.tmp 69), none⟩,
    ⟨some 71, .move (.tmp 7), some (70, false)⟩,
    ⟨some 72, .binOp .gtr 3 (.tmp 71) (.const (.int .i64 0)) 3, some (70, false)⟩,
    ⟨some 73, .move (.tmp 72), some (70, false)⟩,
    ⟨some 74, .fieldAddr 35 (.tmp 5) 3, some (73, true)⟩,
    ⟨some 75, .load 33 (.tmp 74), some (73, true)⟩,
    ⟨some 76, .move (.tmp 7), some (73, true)⟩,
    ⟨some 77, .binOp .sub 3 (.tmp 76) (.const (.int .i64 1)) 3, some (73, true)⟩,
    ⟨some 78, .indexAddr 33 (.tmp 75) (.tmp 77), some (73, true)⟩,
    ⟨some 79, .load 9 (.tmp 78), some (73, true)⟩,
    ⟨some 80, .fieldAddr 35 (.tmp 5) 3, some (73, true)⟩,
    ⟨some 81, .load 33 (.tmp 80), some (73, true)⟩,
    ⟨some 82, .move (.tmp 7), some (73, true)⟩,
    ⟨some 83, .indexAddr 33 (.tmp 81) (.tmp 82), some (73, true)⟩,
    ⟨some 84, .load 9 (.tmp 83), some (73, true)⟩,
    ⟨some 85, .binOp .geq 9 (.tmp 79) (.tmp 84) 9, some (73, true)⟩,
    ⟨some 86, .pick (.tmp 73) (.tmp 85) (.const (.bool false)), some (70, false)⟩,
    ⟨some 87, .pick (.tmp 70) (.const (.bool true)) (.tmp 86), none⟩], [])]) (.cond (.tmp 87) (.seq (.reg [⟨some 2, .assign (.const (.bool false)), none⟩]) .ret) .skip))) (.reg [⟨some 56, .move (.tmp 7), none⟩,
    ⟨some 57, .binOp .add 3 (.tmp 56) (.const (.int .i64 1)) 3, none⟩,
    ⟨some 7, .assign (.tmp 57), none⟩])))))) (.seq (.reg [⟨some 2, .assign (.const (.bool true)), none⟩]) .ret)))))
theorem rs_rostrumkeep_KeysTold : Try.f9.results.toList = [.tmp 2] := rfl
theorem ok_rostrumkeep_KeysTold : Try.f9.body.bind (comp Try.f9.ntmps) = some ac_rostrumkeep_KeysTold := by kernel_rfl
variable {G : Nat → AV}
theorem ul_t (l : List Stp) : UL 6 (l.map Stp.row) := by
  intro r hr
  obtain ⟨p, _, rfl⟩ := List.mem_map.1 hr
  rfl
theorem cutL (l : List Stp) (k : Nat) : ∃ m : Nat, (if (k : Int) < (l.length : Int) then (k : Int) else (l.length : Int)) = (m : Int) ∧ m ≤ l.length ∧ m ≤ k := by
  by_cases h : (k : Int) < (l.length : Int)
  · exact ⟨k, by rw [if_pos h], by omega, Nat.le_refl _⟩
  · exact ⟨l.length, by rw [if_neg h], Nat.le_refl _, by omega⟩
theorem keysTold_c (l : List Stp) (hl : ∀ x ∈ l, x.Ok) (hll : (l.length : Int) ≤ 9223372036854775807) : PCall Try.prog G 9 [.one (.v (.sl (l.map Stp.row)))] (bV true) := by
  have zi : i64 0 := ⟨by omega, by omega⟩
  obtain ⟨m, qm, m1, m2⟩ := cutL l 39
  have qm : (if (39 : Int) < (l.length : Int) then (39 : Int) else (l.length : Int)) = (m : Int) := qm
  have hl30 : ∀ y ∈ l.take m, y.Ok := fun y hy => hl y (List.mem_of_mem_take hy)
  have hx9 : (Stp.mk ⟨0, 0, 0, 0, ⟨#[]⟩⟩ 0).Ok := ⟨⟨zi, zi, zi, zi⟩, zi⟩
  have hlt2 : (l.take m).length = m := by rw [List.length_take]; omega
  have hl9 : ∀ y ∈ l.take m ++ [Stp.mk ⟨0, 0, 0, 0, ⟨#[]⟩⟩ 0], y.Ok := by
    intro y hy
    rcases List.mem_append.1 hy with h | h
    · exact hl30 y h
    · rw [List.mem_singleton.1 h]; exact hx9
  have hst := storeK_c (G := G) (l.take m ++ [Stp.mk ⟨0, 0, 0, 0, ⟨#[]⟩⟩ 0]) hl9 (by rw [List.length_append]; simp; omega)
  rw [List.map_append, List.map_take] at hst
  obtain ⟨hs, hs2⟩ := storeV_ok _ hl9
  have hpos := storeV_put hl30 hx9 (by omega) rfl
  generalize storeV (l.take m ++ [Stp.mk ⟨0, 0, 0, 0, ⟨#[]⟩⟩ 0]) = s at *
  obtain ⟨e1, o1⟩ := apply_nowT hs keysC_ok (.inl rfl)
  rw [doE_keys] at e1
  have h1 := apply_c (G := G) s s.now keysC hs.ok.small
  rw [e1] at h1
  have h4 := sameStore_c (G := G) s s hs.ok.small
  have hr := hs.ok.rise
  have hlen := hs.ok.len
  obtain ⟨now, ents⟩ := s
  simp only at hpos hr hlen
  have q0 : ((ents.length : Int) == 0) = false := by rw [beq_eq_false_iff_ne]; omega
  simp only [ApA, Sto.c, Cmd.c, Rep.c, keysC, List.map_append, List.map_cons, List.map_nil, Stp.row, decide_true] at h1 h4 hst ⊢
  refine pcall mixed Try.func9 ok_rostrumkeep_KeysTold rs_rostrumkeep_KeysTold (by simp [Try.f9]) ?_
  unfold ac_rostrumkeep_KeysTold
  repeat' (first | (with_reducible first | refine Cnd.intro (fun h => ?_) (fun h => ?_) | refine And.intro ?_ ?_ | refine Wk.refl ?_ | exact Weak.refl _ _ | refine weak_auto ?_ | apply awp_join) | ((try with_reducible refine CallZ.l ?_); with_reducible refine qcf (by first | exact hst | exact h1 | exact h4) ?_ ?_) | ((try with_reducible refine CallZ.l ?_); with_reducible refine qcn (by first | exact qkc hst (by with_unfolding_all rfl) | exact qkc h1 (by with_unfolding_all rfl) | exact qkc h4 (by with_unfolding_all rfl)) ?_) | ((with_reducible refine qcz (by first | exact qkz hst (by with_unfolding_all rfl) | exact qkz h1 (by with_unfolding_all rfl) | exact qkz h4 (by with_unfolding_all rfl)) ?_); intro zh1 zq1; (try simp -dsimp [go_sem] at zq1); obtain ⟨rfl⟩ := zq1) | (with_reducible refine CallZ.z ?_) | simp -dsimp [go_sem, qm, q0])
  all_goals first | exact ul_t _ | (rw [← List.map_take]; exact ul_t _) | exact ul_one rfl | omega | skip
  refine awp_loop (fun i : Nat => ⟨[(2, bV false), (3, .one (.ptr 0 0)), (5, .one (.ptr 1 0)), (7, iV i)], G, [some (.box 29 [iC now, .v (.sl (eR ents))]), some (.box 35 [iC 0, sC ⟨#[]⟩, iC 0, .v (.sl (strRows (ents.map Ent.key)))])]⟩) (fun i => i ≤ ents.length) (fun i => ents.length - i) 0 (weak_auto ?_) (Nat.zero_le _) ?_
  · simp -dsimp [go_sem]
  · intro i hi
    by_cases hlt : i < ents.length
    · obtain ⟨e, he⟩ : ∃ e, ents[i]? = some e := ⟨_, List.getElem?_eq_getElem hlt⟩
      have e4 : IntKind.i64.wrap ((i : Int) + 1) = (i : Int) + 1 := IntWalk.i64_in _ (by omega)
      have q1 : decide (i < ents.length) = true := by simpa using hlt
      cases i with
      | zero =>
        obtain ⟨key, ⟨vk, vt, vn, vp, vi, vs⟩, till⟩ := e
        have e6 : IntKind.i64.wrap 1 = 1 := rfl
        repeat' (first | (with_reducible first | refine Cnd.intro (fun h => ?_) (fun h => ?_) | refine And.intro ?_ ?_ | refine Wk.refl ?_ | exact Weak.refl _ _ | refine weak_auto ?_ | apply awp_join) | (with_reducible refine CallZ.z ?_) | simp -dsimp [go_sem, he, Ent.row, e4, e6, q1])
        all_goals first
          | omega
          | (refine Again.auto 1 ?_ hlt ?_
             · simp -dsimp [go_sem]
             · show ents.length - 1 < ents.length - 0; omega)
          | trace_state
      | succ j =>
        obtain ⟨e0, he0⟩ : ∃ e, ents[j]? = some e := ⟨_, List.getElem?_eq_getElem (by omega)⟩
        have e5 : IntKind.i64.wrap (j : Int) = (j : Int) := IntWalk.i64_in _ (by omega)
        have e6 : IntKind.i64.wrap ((j : Int) + 1 + 1) = (j : Int) + 1 + 1 := IntWalk.i64_in _ (by omega)
        have hb : Op.bytesLess e0.key.data.toList e.key.data.toList = true := by
          have hlt2 : j + 1 < ents.length := hlt
          have := List.pairwise_iff_getElem.1 hr j (j + 1) (by omega) hlt2 (by omega)
          have g0 := (List.getElem?_eq_some_iff.1 he0).2
          have g1 := (List.getElem?_eq_some_iff.1 he).2
          rw [g0, g1] at this
          rw [cb_less]; exact decide_eq_true this
        obtain ⟨key, ⟨vk, vt, vn, vp, vi, vs⟩, till⟩ := e
        obtain ⟨key0, ⟨vk0, vt0, vn0, vp0, vi0, vs0⟩, till0⟩ := e0
        simp only at hb
        repeat' (first | (with_reducible first | refine Cnd.intro (fun h => ?_) (fun h => ?_) | refine And.intro ?_ ?_ | refine Wk.refl ?_ | exact Weak.refl _ _ | refine weak_autoC ?_ | apply awp_join) | (with_reducible refine CallZ.z ?_) | simp -dsimp [go_sem, he, he0, Ent.row, e4, e5, e6, hb, q1, clean_nil, clean_cons, clean_yes, clean_no])
        all_goals first
          | omega
          | (refine Again.auto (j + 1 + 1) ?_ hlt ?_
             · simp -dsimp [go_sem]
             · show ents.length - (j + 1 + 1) < ents.length - (j + 1); omega)
          | trace_state
    · have q1 : decide (i < ents.length) = false := by simpa using hlt
      repeat' (first | (with_reducible first | refine Cnd.intro (fun h => ?_) (fun h => ?_) | refine And.intro ?_ ?_ | refine Wk.refl ?_ | exact Weak.refl _ _ | refine weak_auto ?_ | apply awp_join) | (with_reducible refine CallZ.z ?_) | simp -dsimp [go_sem, q1])
      all_goals trace_state
end Go.Proofs.Ytmaiphnabebplaa
