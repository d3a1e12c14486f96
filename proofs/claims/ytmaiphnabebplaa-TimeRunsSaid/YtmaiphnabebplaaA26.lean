/- TimeRuns: the walk. -/
import Derived.Test.YtmaiphnabebplaaA15
import Derived.Test.YtmaiphnabebplaaA9
set_option linter.unusedVariables false
set_option linter.unusedSimpArgs false
set_option maxRecDepth 100000
set_option maxHeartbeats 8000000
namespace Go.Proofs.Ytmaiphnabebplaa
open Go Go.RowKit Go.Proofs.AE
def ac_rostrumkeep_TimeRuns : ACode := .seq (.reg [⟨some 4, .assign (.const (.bool false)), none⟩]) (.seq (.reg [⟨some 16, .move (.tmp 0), none⟩,
    ⟨some 17, .move (.tmp 0), none⟩,
    ⟨some 18, .call { callee := .builtin .len, args := #[.tmp 17], argTypes := #[22] }, none⟩,
    ⟨some 19, .call { callee := .builtin .min, args := #[.tmp 18, .const (.int .i64 39)], argTypes := #[3, 3] }, none⟩,
    ⟨some 20, .slice 22 (.tmp 16) none (some (.tmp 19)) none, none⟩,
    ⟨some 21, .call { callee := .builtin .append, args := #[.const (.slice none 0 0), .tmp 20], argTypes := #[22, 22] }, none⟩,
    ⟨some 22, .build 24 #[(0, .const (.int .i64 0))], none⟩,
    ⟨some 23, .build 26 #[(0, .tmp 22)], none⟩,
    ⟨some 24, .buildSlice 22 1 #[(0, .tmp 23)], none⟩,
    ⟨some 25, .call { callee := .builtin .append, args := #[.tmp 21, .tmp 24], argTypes := #[22, 22] }, none⟩,
    ⟨some 26, .call { callee := .value (.func 15), args := #[.tmp 25], argTypes := #[22] }, none⟩,
    ⟨some 5, .alloc 29, none⟩,
    ⟨none, .store 29 (.tmp 5) (.tmp 26), none⟩]) (.seq (.reg [⟨some 27, .move (.tmp 1), none⟩,
    ⟨some 28, .call { callee := .value (.func 16), args := #[.tmp 27, .const (.int .i64 90)], argTypes := #[3, 3] }, none⟩,
    ⟨some 6, .assign (.tmp 28), none⟩]) (.seq (.reg [⟨some 30, .load 29 (.tmp 5), none⟩,
    ⟨some 31, .fieldAddr 29 (.tmp 5) 0, none⟩,
    ⟨some 32, .load 3 (.tmp 31), none⟩,
    ⟨some 33, .move (.tmp 6), none⟩,
    ⟨some 34, .binOp .add 3 (.tmp 32) (.tmp 33) 3, none⟩,
    ⟨some 35, .build 39 #[(0, .const (.int .i64 22))], none⟩,
    ⟨some 36, .call { callee := .value (.func 17), args := #[.tmp 30, .tmp 34, .tmp 35], argTypes := #[29, 3, 39] }, none⟩,
    ⟨some 29, .move (.tmp 36), none⟩,
    ⟨some 37, .extract (.tmp 29) 0, none⟩,
    ⟨some 38, .extract (.tmp 29) 1, none⟩,
    ⟨some 39, .extract (.tmp 29) 2, none⟩,
    ⟨some 7, .alloc 29, none⟩,
    ⟨some 8, .alloc 35, none⟩,
    ⟨none, .store 29 (.tmp 7) (.tmp 37), none⟩,
    ⟨none, .store 35 (.tmp 8) (.tmp 38), none⟩,
    ⟨some 9, .assign (.tmp 39), none⟩]) (.seq (.reg [⟨some 10, .assign (.const (.int .i64 0)), none⟩]) (.seq (.seq (.reg [⟨some 11, .assign (.const (.int .i64 0)), none⟩]) (.block 0 (.loop (.seq (.seq (.reg [⟨some 40, .move (.tmp 11), none⟩,
    ⟨some 41, .fieldAddr 29 (.tmp 5) 1, none⟩,
    ⟨some 42, .load 27 (.tmp 41), none⟩,
    ⟨some 43, .call { callee := .builtin .len, args := #[.tmp 42], argTypes := #[27] }, none⟩,
    ⟨some 44, .binOp .lss 3 (.tmp 40) (.tmp 43) 3, none⟩]) (.cond (.tmp 44) .skip (.exit 0))) (.seq (.block 1 (.seq (.reg [⟨some 47, .fieldAddr 29 (.tmp 5) 1, none⟩,
    ⟨some 48, .load 27 (.tmp 47), none⟩,
    ⟨some 49, .move (.tmp 11), none⟩,
    ⟨some 50, .indexAddr 27 (.tmp 48) (.tmp 49), none⟩,
    ⟨some 51, .load 49 (.tmp 50), none⟩,
    ⟨some 12, .alloc 49, none⟩,
    ⟨none, .store 49 (.tmp 12) (.tmp 51), none⟩]) (.seq (.reg [⟨some 53, .load 29 (.tmp 7), none⟩,
    ⟨some 54, .fieldAddr 49 (.tmp 12) 0, none⟩,
    ⟨some 55, .load 9 (.tmp 54), none⟩,
    ⟨some 56, .call { callee := .value (.func 21), args := #[.tmp 53, .tmp 55], argTypes := #[29, 9] }, none⟩,
    ⟨some 52, .move (.tmp 56), none⟩,
    ⟨some 57, .extract (.tmp 52) 0, none⟩,
    ⟨some 58, .extract (.tmp 52) 1, none⟩,
    ⟨some 13, .alloc 49, none⟩,
    ⟨none, .store 49 (.tmp 13) (.tmp 57), none⟩,
    ⟨some 14, .assign (.tmp 58), none⟩]) (.seq (.reg [⟨some 59, .fieldAddr 49 (.tmp 12) 2, none⟩,
    ⟨some 60, .load 3 (.tmp 59), none⟩,
    ⟨some 61, .binOp .eql 3 (.tmp 60) (.const (.int .i64 0)) 3, none⟩,
    ⟨some 62, .move (.tmp 61), none⟩,
    ⟨some 63, .fieldAddr 49 (.tmp 12) 2, some (62, false)⟩,
    ⟨some 64, .load 3 (.tmp 63), some (62, false)⟩,
    ⟨some 65, .fieldAddr 29 (.tmp 5) 0, some (62, false)⟩,
    ⟨some 66, .load 3 (.tmp 65), some (62, false)⟩,
    ⟨some 67, .move (.tmp 6), some (62, false)⟩,
    ⟨some 68, .binOp .add 3 (.tmp 66) (.tmp 67) 3, some (62, false)⟩,
    ⟨some 69, .binOp .gtr 3 (.tmp 64) (.tmp 68) 3, some (62, false)⟩,
    ⟨some 70, .pick (.tmp 62) (.const (.bool true)) (.tmp 69), none⟩,
    ⟨some 15, .assign (.tmp 70), none⟩]) (.seq (.seq (.reg [⟨some 71, .move (.tmp 14), none⟩,
    ⟨some 72, .move (.tmp 15), none⟩,
    ⟨some 73, .binOp .neq 4 (.tmp 71) (.tmp 72) 4, none⟩,
    ⟨some 74, .move (.tmp 73), none⟩,
    ⟨some 75, .move (.tmp 14), some (74, false)⟩,
    ⟨some 76, .move (.tmp 75), some (74, false)⟩,
    ⟨some 77, .fieldAddr 49 (.tmp 12) 2, some (76, true)⟩,
    ⟨some 78, .load 3 (.tmp 77), some (76, true)⟩,
    ⟨some 79, .fieldAddr 49 (.tmp 13) 2, some (76, true)⟩,
    ⟨some 80, .load 3 (.tmp 79), some (76, true)⟩,
    ⟨some 81, .binOp .neq 3 (.tmp 78) (.tmp 80) 3, some (76, true)⟩,
    ⟨some 82, .move (.tmp 81), some (76, true)⟩,
    ⟨some 83, .fieldAddr 49 (.tmp 12) 1, some (82, false)⟩,
    ⟨some 84, .load 47 (.tmp 83), some (82, false)⟩,
    ⟨some 85, .fieldAddr 49 (.tmp 13) 1, some (82, false)⟩,
    ⟨some 86, .load 47 (.tmp 85), some (82, false)⟩,
    ⟨some 87, .call { callee := .value (.func 22), args := #[.tmp 84, .tmp 86], argTypes := #[47, 47] }, some (82, false)⟩,
    ⟨some 88, .unOp .not 4 (.tmp 87), some (82, false)⟩,
    ⟨some 89, .pick (.tmp 82) (.const (.bool true)) (.tmp 88), some (76, true)⟩,
    ⟨some 90, .pick (.tmp 76) (.tmp 89) (.const (.bool false)), some (74, false)⟩,
    ⟨some 91, .pick (.tmp 74) (.const (.bool true)) (.tmp 90), none⟩]) (.cond (.tmp 91) (.seq (.reg [⟨some 4, .assign (.const (.bool false)), none⟩]) .ret) .skip)) (.seq (.reg [⟨some 92, .move (.tmp 15), none⟩]) (.cond (.tmp 92) (.reg [⟨some 93, .move (.tmp 10), none⟩,
    ⟨some 94, .binOp .add 3 (.tmp 93) (.const (.int .i64 1)) 3, none⟩,
    ⟨some 10, .assign (.tmp 94), none⟩]) .skip))))))) (.reg [⟨some 45, .move (.tmp 11), none⟩,
    ⟨some 46, .binOp .add 3 (.tmp 45) (.const (.int .i64 1)) 3, none⟩,
    ⟨some 11, .assign (.tmp 46), none⟩])))))) (.seq (.reg [⟨some 95, .move (.tmp 9), none⟩,
    ⟨some 96, .binOp .eql 32 (.tmp 95) (.const (.int .i64 0)) 32, none⟩,
    ⟨some 97, .move (.tmp 96), none⟩,
    ⟨some 98, .fieldAddr 35 (.tmp 8) 3, some (97, true)⟩,
    ⟨some 99, .load 33 (.tmp 98), some (97, true)⟩,
    ⟨some 100, .call { callee := .builtin .len, args := #[.tmp 99], argTypes := #[33] }, some (97, true)⟩,
    ⟨some 101, .move (.tmp 10), some (97, true)⟩,
    ⟨some 102, .binOp .eql 3 (.tmp 100) (.tmp 101) 3, some (97, true)⟩,
    ⟨some 103, .pick (.tmp 97) (.tmp 102) (.const (.bool false)), none⟩,
    ⟨some 104, .move (.tmp 103), none⟩,
    ⟨some 105, .fieldAddr 29 (.tmp 7) 1, some (104, true)⟩,
    ⟨some 106, .load 27 (.tmp 105), some (104, true)⟩,
    ⟨some 107, .call { callee := .builtin .len, args := #[.tmp 106], argTypes := #[27] }, some (104, true)⟩,
    ⟨some 108, .move (.tmp 10), some (104, true)⟩,
    ⟨some 109, .binOp .eql 3 (.tmp 107) (.tmp 108) 3, some (104, true)⟩,
    ⟨some 110, .pick (.tmp 104) (.tmp 109) (.const (.bool false)), none⟩,
    ⟨some 111, .move (.tmp 110), none⟩,
    ⟨some 112, .fieldAddr 29 (.tmp 7) 0, some (111, true)⟩,
    ⟨some 113, .load 3 (.tmp 112), some (111, true)⟩,
    ⟨some 114, .fieldAddr 29 (.tmp 5) 0, some (111, true)⟩,
    ⟨some 115, .load 3 (.tmp 114), some (111, true)⟩,
    ⟨some 116, .move (.tmp 6), some (111, true)⟩,
    ⟨some 117, .binOp .add 3 (.tmp 115) (.tmp 116) 3, some (111, true)⟩,
    ⟨some 118, .binOp .eql 3 (.tmp 113) (.tmp 117) 3, some (111, true)⟩,
    ⟨some 119, .pick (.tmp 111) (.tmp 118) (.const (.bool false)), none⟩,
    ⟨some 4, .assign (.tmp 119), none⟩]) .ret))))))
theorem rs_rostrumkeep_TimeRuns : Try.f12.results.toList = [.tmp 4] := rfl
theorem ok_rostrumkeep_TimeRuns : Try.f12.body.bind (comp Try.f12.ntmps) = some ac_rostrumkeep_TimeRuns := by kernel_rfl
variable {G : Nat → AV}
theorem ul_t (l : List Stp) : UL 6 (l.map Stp.row) := by
  intro r hr
  obtain ⟨p, _, rfl⟩ := List.mem_map.1 hr
  rfl
theorem cutL (l : List Stp) (k : Nat) : ∃ m : Nat, (if (k : Int) < (l.length : Int) then (k : Int) else (l.length : Int)) = (m : Int) ∧ m ≤ l.length ∧ m ≤ k := by
  by_cases h : (k : Int) < (l.length : Int)
  · exact ⟨k, by rw [if_pos h], by omega, Nat.le_refl _⟩
  · exact ⟨l.length, by rw [if_neg h], Nat.le_refl _, by omega⟩
theorem timeRuns_c (l : List Stp) (n : Int) (hl : ∀ x ∈ l, x.Ok) (hll : (l.length : Int) ≤ 9223372036854775807) (hn : i64 n) : PCall Try.prog G 12 [.one (.v (.sl (l.map Stp.row))), iV n] (bV true) := by
  have zi : i64 0 := ⟨by omega, by omega⟩
  obtain ⟨m, qm, m1, m2⟩ := cutL l 39
  have qm : (if (39 : Int) < (l.length : Int) then (39 : Int) else (l.length : Int)) = (m : Int) := qm
  have hl30 : ∀ y ∈ l.take m, y.Ok := fun y hy => hl y (List.mem_of_mem_take hy)
  have hx9 : (Stp.mk ⟨0, 0, 0, 0, ⟨#[]⟩⟩ 0).Ok := ⟨⟨zi, zi, zi, zi⟩, zi⟩
  have hlt2 : (l.take m).length = m := by rw [List.length_take]; omega
  have hl9 : ∀ y ∈ l.take m ++ [Stp.mk ⟨0, 0, 0, 0, ⟨#[]⟩⟩ 0], y.Ok := by
    intro y hy
    rcases List.mem_append.1 hy with h | h
    · exact hl30 y h
    · rw [List.mem_singleton.1 h]; exact hx9
  have hst := storeK_c (G := G) (l.take m ++ [Stp.mk ⟨0, 0, 0, 0, ⟨#[]⟩⟩ 0]) hl9 (by rw [List.length_append]; simp; omega)
  rw [List.map_append, List.map_take] at hst
  obtain ⟨hs, hs2⟩ := storeV_ok _ hl9
  generalize storeV (l.take m ++ [Stp.mk ⟨0, 0, 0, 0, ⟨#[]⟩⟩ 0]) = s at *
  have hp := pk_range (n := n) (m := 90) (by omega)
  have hpk := picked_c (G := G) n 90 hn (by omega)
  generalize pk n 90 = p at *
  have hnow := hs.ok.now
  obtain ⟨e1, o1⟩ := apply_later hs.ok (w := p) (by omega) (by omega) keysC_ok
  rw [doE_keys] at e1 o1
  have h1 := apply_c (G := G) s (s.now + p) keysC hs.ok.small
  rw [e1] at h1
  have hr := hs.ok.rise
  have hlen := hs.ok.len
  have hall := hs.ok.all
  have w1 : IntKind.i64.wrap (s.now + p) = s.now + p := IntWalk.i64_in _ (by omega)
  have hent : ∀ k, PCall Try.prog G 21 [.agg (Sto.mk (s.now + p) (aliveS (s.now + p) s)).c, sV k] (.tup [.agg (entO ((getE s.ents k).filter fun e => !goneE (s.now + p) e)).c, bV ((getE s.ents k).filter fun e => !goneE (s.now + p) e).isSome]) := fun k => by
    have := entry_c (G := G) ⟨s.now + p, aliveS (s.now + p) s⟩ k (Nat.le_trans o1.len (by omega))
    unfold aliveS at this ⊢
    rw [getE_filter hr] at this
    exact this
  obtain ⟨al, hal⟩ : ∃ al, aliveS (s.now + p) s = al := ⟨_, rfl⟩
  have hal2 : al = s.ents.filter fun e => !goneE (s.now + p) e := hal.symm
  rw [hal] at h1 e1 o1
  simp only [hal] at hent
  obtain ⟨now, ents⟩ := s
  simp only at hr hlen hall w1 hent h1 hal2 hnow
  have hcnt : ∀ i, ((ents.take i).filter fun e => !goneE (now + p) e).length ≤ 12 := fun i => by
    have a := List.length_filter_le (fun e => !goneE (now + p) e) (ents.take i)
    have b := List.length_take_le i ents
    have c : (ents.take i).length ≤ ents.length := by rw [List.length_take]; omega
    omega
  simp only [ApA, Sto.c, Cmd.c, Rep.c, keysC, List.map_append, List.map_cons, List.map_nil, Stp.row, decide_true] at h1 hst hent ⊢
  refine pcall mixed Try.func12 ok_rostrumkeep_TimeRuns rs_rostrumkeep_TimeRuns (by simp [Try.f12]) ?_
  unfold ac_rostrumkeep_TimeRuns
  repeat' (first | (with_reducible first | refine Cnd.intro (fun h => ?_) (fun h => ?_) | refine And.intro ?_ ?_ | refine Wk.refl ?_ | exact Weak.refl _ _ | refine weak_auto ?_ | apply awp_join) | ((try with_reducible refine CallZ.l ?_); with_reducible refine qcf (by first | exact hst | exact hpk | exact h1) ?_ ?_) | ((try with_reducible refine CallZ.l ?_); with_reducible refine qcn (by first | exact qkc hst (by with_unfolding_all rfl) | exact qkc hpk (by with_unfolding_all rfl) | exact qkc h1 (by with_unfolding_all rfl)) ?_) | ((with_reducible refine qcz (by first | exact qkz hst (by with_unfolding_all rfl) | exact qkz hpk (by with_unfolding_all rfl) | exact qkz h1 (by with_unfolding_all rfl)) ?_); intro zh1 zq1; (try simp -dsimp [go_sem] at zq1); obtain ⟨rfl⟩ := zq1) | (with_reducible refine CallZ.z ?_) | simp -dsimp [go_sem, qm, w1])
  all_goals first | exact ul_t _ | (rw [← List.map_take]; exact ul_t _) | exact ul_one rfl | omega | skip
  refine awp_loop (fun i : Nat => ⟨[(4, bV false), (5, .one (.ptr 0 0)), (6, iV p), (7, .one (.ptr 1 0)), (8, .one (.ptr 2 0)), (9, iV 0), (10, iV ((ents.take i).filter fun e => !goneE (now + p) e).length), (11, iV i)], G, [some (.box 29 [iC now, .v (.sl (eR ents))]), some (.box 29 [iC (now + p), .v (.sl (eR al))]), some (.box 35 [iC 0, sC ⟨#[]⟩, iC 0, .v (.sl (strRows (al.map Ent.key)))])]⟩) (fun i => i ≤ ents.length) (fun i => ents.length - i) 0 (weak_auto ?_) (Nat.zero_le _) ?_
  · simp -dsimp [go_sem]
  · intro i hi
    have hci := hcnt i
    by_cases hlt : i < ents.length
    · obtain ⟨e, he⟩ : ∃ e, ents[i]? = some e := ⟨_, List.getElem?_eq_getElem hlt⟩
      have e4 : IntKind.i64.wrap ((i : Int) + 1) = (i : Int) + 1 := IntWalk.i64_in _ (by omega)
      have q1 : decide (i < ents.length) = true := by simpa using hlt
      have hee := hent e.key
      rw [getE_at hr he] at hee
      have htk : ents.take (i + 1) = ents.take i ++ [e] := by rw [List.take_add_one, he]; rfl
      have hsv := sameValue_c (G := G) e.val e.val (hall e (List.mem_of_getElem? he)).val.small
      by_cases hg : goneE (now + p) e = true
      · have hcnt2 : ((ents.take (i + 1)).filter fun e => !goneE (now + p) e).length = ((ents.take i).filter fun e => !goneE (now + p) e).length := by rw [htk]; simp [hg]
        simp only [Option.filter_some, hg, Bool.not_true, Bool.false_eq_true, if_false, entO, Option.getD_none, Option.isSome_none, Ent.c, zeroV] at hee
        unfold goneE at hg
        generalize hc1 : ((ents.take i).filter fun e => !goneE (now + p) e).length = cn at *
        obtain ⟨key, ⟨vk, vt, vn, vp, vi, vs⟩, till⟩ := e
        simp only [Bool.and_eq_true, bne_iff_ne, decide_eq_true_eq] at hg
        have q2 : (till == (0 : Int)) = false := by rw [beq_eq_false_iff_ne]; exact hg.1
        have q3 : decide (now + p < till) = false := by simp; omega
        simp only [Val.c, List.map_nil] at hsv hee
        repeat' (first | (with_reducible first | refine Cnd.intro (fun h => ?_) (fun h => ?_) | refine And.intro ?_ ?_ | refine Wk.refl ?_ | exact Weak.refl _ _ | refine weak_auto ?_ | apply awp_join) | ((try with_reducible refine CallZ.l ?_); with_reducible refine qcf (by first | exact hee | exact hsv) ?_ ?_) | ((try with_reducible refine CallZ.l ?_); with_reducible refine qcn (by first | exact qkc hee (by with_unfolding_all rfl) | exact qkc hsv (by with_unfolding_all rfl)) ?_) | ((with_reducible refine qcz (by first | exact qkz hee (by with_unfolding_all rfl) | exact qkz hsv (by with_unfolding_all rfl)) ?_); intro zh1 zq1; (try simp -dsimp [go_sem] at zq1); obtain ⟨rfl⟩ := zq1) | (with_reducible refine CallZ.z ?_) | simp -dsimp [go_sem, he, Ent.row, e4, q1, q2, q3, w1])
        all_goals first
          | omega
          | (refine Again.auto (i + 1) ?_ hlt ?_
             · simp -dsimp [go_sem, hcnt2]
             · show ents.length - (i + 1) < ents.length - i; omega)
          | trace_state
      · have hg2 : goneE (now + p) e = false := by simpa using hg
        have hcnt2 : ((ents.take (i + 1)).filter fun e => !goneE (now + p) e).length = ((ents.take i).filter fun e => !goneE (now + p) e).length + 1 := by rw [htk]; simp [hg2]
        simp only [Option.filter_some, hg2, Bool.not_false, if_true, entO, Option.getD_some, Option.isSome_some, Ent.c] at hee
        unfold goneE at hg2
        generalize hc1 : ((ents.take i).filter fun e => !goneE (now + p) e).length = cn at *
        have e6 : IntKind.i64.wrap ((cn : Int) + 1) = (cn : Int) + 1 := IntWalk.i64_in _ (by omega)
        obtain ⟨key, ⟨vk, vt, vn, vp, vi, vs⟩, till⟩ := e
        simp only [Val.c, decide_true] at hsv hee
        by_cases ht : till = 0
        · have q2 : (till == (0 : Int)) = true := by simpa using ht
          repeat' (first | (with_reducible first | refine Cnd.intro (fun h => ?_) (fun h => ?_) | refine And.intro ?_ ?_ | refine Wk.refl ?_ | exact Weak.refl _ _ | refine weak_auto ?_ | apply awp_join) | ((try with_reducible refine CallZ.l ?_); with_reducible refine qcf (by first | exact hee | exact hsv) ?_ ?_) | ((try with_reducible refine CallZ.l ?_); with_reducible refine qcn (by first | exact qkc hee (by with_unfolding_all rfl) | exact qkc hsv (by with_unfolding_all rfl)) ?_) | ((with_reducible refine qcz (by first | exact qkz hee (by with_unfolding_all rfl) | exact qkz hsv (by with_unfolding_all rfl)) ?_); intro zh1 zq1; (try simp -dsimp [go_sem] at zq1); obtain ⟨rfl⟩ := zq1) | (with_reducible refine CallZ.z ?_) | simp -dsimp [go_sem, he, Ent.row, e4, e6, q1, q2, w1])
          all_goals first
            | omega
            | (refine Again.auto (i + 1) ?_ hlt ?_
               · simp -dsimp [go_sem, hcnt2]
               · show ents.length - (i + 1) < ents.length - i; omega)
            | trace_state
        · have q2 : (till == (0 : Int)) = false := by simpa using ht
          have q3 : decide (now + p < till) = true := by
            have : ¬ till ≤ now + p := fun h => by simp [ht, h] at hg2
            simp; omega
          repeat' (first | (with_reducible first | refine Cnd.intro (fun h => ?_) (fun h => ?_) | refine And.intro ?_ ?_ | refine Wk.refl ?_ | exact Weak.refl _ _ | refine weak_auto ?_ | apply awp_join) | ((try with_reducible refine CallZ.l ?_); with_reducible refine qcf (by first | exact hee | exact hsv) ?_ ?_) | ((try with_reducible refine CallZ.l ?_); with_reducible refine qcn (by first | exact qkc hee (by with_unfolding_all rfl) | exact qkc hsv (by with_unfolding_all rfl)) ?_) | ((with_reducible refine qcz (by first | exact qkz hee (by with_unfolding_all rfl) | exact qkz hsv (by with_unfolding_all rfl)) ?_); intro zh1 zq1; (try simp -dsimp [go_sem] at zq1); obtain ⟨rfl⟩ := zq1) | (with_reducible refine CallZ.z ?_) | simp -dsimp [go_sem, he, Ent.row, e4, e6, q1, q2, q3, w1])
          all_goals first
            | omega
            | (refine Again.auto (i + 1) ?_ hlt ?_
               · simp -dsimp [go_sem, hcnt2]
               · show ents.length - (i + 1) < ents.length - i; omega)
            | trace_state
    · have q1 : decide (i < ents.length) = false := by simpa using hlt
      have hall2 : (ents.take i).filter (fun e => !goneE (now + p) e) = al := by rw [hal2, List.take_of_length_le (by omega)]
      rw [hall2]
      repeat' (first | (with_reducible first | refine Cnd.intro (fun h => ?_) (fun h => ?_) | refine And.intro ?_ ?_ | refine Wk.refl ?_ | exact Weak.refl _ _ | refine weak_auto ?_ | apply awp_join) | (with_reducible refine CallZ.z ?_) | simp -dsimp [go_sem, q1, w1])
      all_goals trace_state
end Go.Proofs.Ytmaiphnabebplaa
