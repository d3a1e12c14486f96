/- The function LastGone answers true. -/
import Derived.Test.YtacdeehkdepiaaaL3
set_option linter.unusedVariables false
set_option linter.unusedSimpArgs false
set_option maxRecDepth 100000
set_option maxHeartbeats 8000000
namespace Go.Proofs.Ytacdeehkdepiaaa
open Go Go.RowKit Go.Proofs.AE
variable {G : Nat → AV}
def ac_rostrumkeep_LastGone : ACode := .seq (.reg [⟨some 4, .assign (.const (.bool false)), none⟩]) (.seq (.reg [⟨some 15, .move (.tmp 1), none⟩,
    ⟨some 16, .call { callee := .value (.func 26), args := #[.tmp 15, .const (.int .i64 8)], argTypes := #[9, 3] }, none⟩,
    ⟨some 5, .assign (.tmp 16), none⟩]) (.seq (.reg [⟨some 17, .move (.tmp 0), none⟩,
    ⟨some 18, .call { callee := .value (.func 28), args := #[.tmp 17, .const (.int .i64 5)], argTypes := #[3, 3] }, none⟩,
    ⟨some 6, .assign (.tmp 18), none⟩]) (.seq (.reg [⟨some 19, .move (.tmp 5), none⟩,
    ⟨some 20, .build 34 #[(0, .const (.int .i64 4)), (1, .const (.string { data := #[107] })), (2, .const (.string { data := #[102] })), (3, .tmp 19)], none⟩,
    ⟨some 21, .move (.tmp 5), none⟩,
    ⟨some 22, .build 34 #[(0, .const (.int .i64 7)), (1, .const (.string { data := #[107] })), (3, .tmp 21)], none⟩,
    ⟨some 23, .move (.tmp 5), none⟩,
    ⟨some 24, .build 34 #[(0, .const (.int .i64 8)), (1, .const (.string { data := #[107] })), (3, .tmp 23)], none⟩,
    ⟨some 25, .move (.tmp 5), none⟩,
    ⟨some 26, .build 34 #[(0, .const (.int .i64 11)), (1, .const (.string { data := #[107] })), (3, .tmp 25)], none⟩,
    ⟨some 27, .move (.tmp 5), none⟩,
    ⟨some 28, .build 34 #[(0, .const (.int .i64 14)), (1, .const (.string { data := #[107] })), (3, .tmp 27), (4, .const (.int .i64 3))], none⟩,
    ⟨some 29, .buildSlice 63 5 #[(0, .tmp 20), (1, .tmp 22), (2, .tmp 24), (3, .tmp 26), (4, .tmp 28)], none⟩,
    ⟨some 30, .move (.tmp 6), none⟩,
    ⟨some 31, .indexAddr 63 (.tmp 29) (.tmp 30), none⟩,
    ⟨some 32, .load 34 (.tmp 31), none⟩,
    ⟨some 7, .alloc 34, none⟩,
    ⟨none, .store 34 (.tmp 7) (.tmp 32), none⟩]) (.seq (.reg [⟨some 33, .build 34 #[(0, .const (.int .i64 6)), (1, .const (.string { data := #[107] })), (2, .const (.string { data := #[102] }))], none⟩,
    ⟨some 34, .build 34 #[(0, .const (.int .i64 9)), (1, .const (.string { data := #[107] }))], none⟩,
    ⟨some 35, .build 34 #[(0, .const (.int .i64 10)), (1, .const (.string { data := #[107] }))], none⟩,
    ⟨some 36, .move (.tmp 5), none⟩,
    ⟨some 37, .build 34 #[(0, .const (.int .i64 12)), (1, .const (.string { data := #[107] })), (3, .tmp 36)], none⟩,
    ⟨some 38, .move (.tmp 5), none⟩,
    ⟨some 39, .build 34 #[(0, .const (.int .i64 15)), (1, .const (.string { data := #[107] })), (3, .tmp 38)], none⟩,
    ⟨some 40, .buildSlice 63 5 #[(0, .tmp 33), (1, .tmp 34), (2, .tmp 35), (3, .tmp 37), (4, .tmp 39)], none⟩,
    ⟨some 41, .move (.tmp 6), none⟩,
    ⟨some 42, .indexAddr 63 (.tmp 40) (.tmp 41), none⟩,
    ⟨some 43, .load 34 (.tmp 42), none⟩,
    ⟨some 8, .alloc 34, none⟩,
    ⟨none, .store 34 (.tmp 8) (.tmp 43), none⟩]) (.seq (.reg [⟨some 45, .build 29 #[], none⟩,
    ⟨some 46, .load 34 (.tmp 7), none⟩,
    ⟨some 47, .call { callee := .value (.func 24), args := #[.tmp 45, .tmp 46], argTypes := #[29, 34] }, none⟩,
    ⟨some 44, .move (.tmp 47), none⟩,
    ⟨some 48, .extract (.tmp 44) 0, none⟩,
    ⟨some 49, .extract (.tmp 44) 1, none⟩,
    ⟨some 50, .extract (.tmp 44) 2, none⟩,
    ⟨some 9, .alloc 29, none⟩,
    ⟨some 10, .alloc 37, none⟩,
    ⟨none, .store 29 (.tmp 9) (.tmp 48), none⟩,
    ⟨none, .store 37 (.tmp 10) (.tmp 49), none⟩,
    ⟨some 11, .assign (.tmp 50), none⟩]) (.seq (.reg [⟨some 52, .load 29 (.tmp 9), none⟩,
    ⟨some 53, .load 34 (.tmp 8), none⟩,
    ⟨some 54, .call { callee := .value (.func 24), args := #[.tmp 52, .tmp 53], argTypes := #[29, 34] }, none⟩,
    ⟨some 51, .move (.tmp 54), none⟩,
    ⟨some 55, .extract (.tmp 51) 0, none⟩,
    ⟨some 56, .extract (.tmp 51) 1, none⟩,
    ⟨some 57, .extract (.tmp 51) 2, none⟩,
    ⟨some 12, .alloc 29, none⟩,
    ⟨some 13, .alloc 37, none⟩,
    ⟨none, .store 29 (.tmp 12) (.tmp 55), none⟩,
    ⟨none, .store 37 (.tmp 13) (.tmp 56), none⟩,
    ⟨some 14, .assign (.tmp 57), none⟩]) (.seq (.reg [⟨some 58, .move (.tmp 11), none⟩,
    ⟨some 59, .binOp .eql 31 (.tmp 58) (.const (.int .i64 0)) 31, none⟩,
    ⟨some 60, .move (.tmp 59), none⟩,
    ⟨some 61, .move (.tmp 14), some (60, true)⟩,
    ⟨some 62, .binOp .eql 31 (.tmp 61) (.const (.int .i64 0)) 31, some (60, true)⟩,
    ⟨some 63, .pick (.tmp 60) (.tmp 62) (.const (.bool false)), none⟩,
    ⟨some 64, .move (.tmp 63), none⟩,
    ⟨some 65, .fieldAddr 37 (.tmp 10) 0, some (64, true)⟩,
    ⟨some 66, .load 31 (.tmp 65), some (64, true)⟩,
    ⟨some 67, .binOp .eql 31 (.tmp 66) (.const (.int .i64 0)) 31, some (64, true)⟩,
    ⟨some 68, .pick (.tmp 64) (.tmp 67) (.const (.bool false)), none⟩,
    ⟨some 69, .move (.tmp 68), none⟩,
    ⟨some 70, .fieldAddr 37 (.tmp 13) 0, some (69, true)⟩,
    ⟨some 71, .load 31 (.tmp 70), some (69, true)⟩,
    ⟨some 72, .binOp .eql 31 (.tmp 71) (.const (.int .i64 0)) 31, some (69, true)⟩,
    ⟨some 73, .pick (.tmp 69) (.tmp 72) (.const (.bool false)), none⟩,
    ⟨some 74, .move (.tmp 73), none⟩,
    ⟨some 75, .fieldAddr 37 (.tmp 10) 2, some (74, true)⟩,
    ⟨some 76, .load 3 (.tmp 75), some (74, true)⟩,
    ⟨some 77, .binOp .eql 3 (.tmp 76) (.const (.int .i64 1)) 3, some (74, true)⟩,
    ⟨some 78, .pick (.tmp 74) (.tmp 77) (.const (.bool false)), none⟩,
    ⟨some 79, .move (.tmp 78), none⟩,
    ⟨some 80, .fieldAddr 37 (.tmp 13) 2, some (79, true)⟩,
    ⟨some 81, .load 3 (.tmp 80), some (79, true)⟩,
    ⟨some 82, .binOp .eql 3 (.tmp 81) (.const (.int .i64 1)) 3, some (79, true)⟩,
    ⟨some 83, .move (.tmp 82), some (79, true)⟩,
    ⟨some 84, .fieldAddr 37 (.tmp 13) 1, some (83, false)⟩,
    ⟨some 85, .load 9 (.tmp 84), some (83, false)⟩,
    ⟨some 86, .move (.tmp 5), some (83, false)⟩,
    ⟨some 87, .binOp .eql 9 (.tmp 85) (.tmp 86) 9, some (83, false)⟩,
    ⟨some 88, .pick (.tmp 83) (.const (.bool true)) (.tmp 87), some (79, true)⟩,
    ⟨some 89, .pick (.tmp 79) (.tmp 88) (.const (.bool false)), none⟩,
    ⟨some 90, .move (.tmp 89), none⟩,
    ⟨some 91, .fieldAddr 29 (.tmp 9) 0, some (90, true)⟩,
    ⟨some 92, .load 3 (.tmp 91), some (90, true)⟩,
    ⟨some 93, .binOp .neq 3 (.tmp 92) (.const (.int .i64 0)) 3, some (90, true)⟩,
    ⟨some 94, .pick (.tmp 90) (.tmp 93) (.const (.bool false)), none⟩,
    ⟨some 95, .move (.tmp 94), none⟩,
    ⟨some 96, .load 29 (.tmp 12), some (95, true)⟩,
    ⟨some 97, .build 29 #[], some (95, true)⟩,
    ⟨some 98, .call { callee := .value (.func 25), args := #[.tmp 96, .tmp 97], argTypes := #[29, 29] }, some (95, true)⟩,
    ⟨some 99, .pick (.tmp 95) (.tmp 98) (.const (.bool false)), none⟩,
    ⟨some 4, .assign (.tmp 99), none⟩]) .ret)))))))
theorem rs_rostrumkeep_LastGone : Try.f14.results.toList = [.tmp 4] := rfl
theorem ok_rostrumkeep_LastGone : Try.f14.body.bind (comp Try.f14.ntmps) = some ac_rostrumkeep_LastGone := by kernel_rfl
theorem one_made {c : Cmd} {v : Val} {r : Rep} (hc : checkC c = 0) (hm : makesC c.kind = true) (hd : doV ⟨kindOfC c.kind, ⟨#[]⟩, 0, [], [], []⟩ c = (v, r)) (h0 : r.code = 0) (h1 : v.els = 1) (h3 : 3 ≤ v.kind) : DoV zeroV c = (v, r, 0) ∧ OkV v := by
  have hk : c.kind ≤ 18 := by
    unfold makesC at hm
    simp at hm
    omega
  have e : DoV zeroV c = (v, r, 0) := by
    rw [DoV_zero hc hk, if_pos hm, hd]
    exact DoEnd_some h0 (fun h => by have := h.2; simp only at this; omega)
  refine ⟨e, ?_⟩
  have := (DoV_vk (.inr rfl) hc hk).2
  rw [e] at this
  rcases this with h | h
  · exact h
  · simp only at h
    rw [h] at h3
    exact absurd h3 (by show ¬ (3 : Int) ≤ 0; omega)
theorem last_gone {c : Cmd} {v w : Val} {r : Rep} (ok : OkV v) (hc : checkC c = 0) (hk : c.kind ≤ 16) (hv : kindOfC c.kind = v.kind) (hd : doV v c = (w, r)) (h0 : r.code = 0) (h1 : w.els = 0) (h3 : 3 ≤ w.kind) : DoV v c = (zeroV, r, 0) := by
  rw [DoV_go (checkV_iff.2 ok) hc (by omega) (by
    simp only [not_or, not_and, Classical.not_not]
    exact ⟨fun _ => hv, fun h => by omega⟩), hd]
  exact DoEnd_none h0 h3 h1
theorem lastGone_c (kind : Int) (s : ByteArray) (hk : i64 kind) : PCall Try.prog G 14 [iV kind, sV s] (bV true) := by
  have hcut := cut_c (G := G) s 8 (by omega)
  have ht := cut_ok s (n := 8) (by omega) (by omega)
  have hpk := picked_c (G := G) kind 5 hk (by omega)
  have hp := pk_range (n := kind) (m := 5) (by omega)
  generalize cutS s 8 = t at *
  have q : pk kind 5 = 0 ∨ pk kind 5 = 1 ∨ pk kind 5 = 2 ∨ pk kind 5 = 3 ∨ pk kind 5 = 4 := by omega
  have hz := sameValue_c (G := G) zeroV zeroV zeroV_small
  have ins : ∀ {α : Type} (x : α), insAt [] 0 x = [x] := fun x => by simp [insAt]
  have del : ∀ {α : Type} (x : α), delAt [x] 0 = [] := fun x => by simp [delAt]
  have key : ∀ (c1 c2 : Cmd) (v : Val) (r1 r2 : Rep), DoV zeroV c1 = (v, r1, 0) → OkV v → DoV v c2 = (zeroV, r2, 0) →
      PCall Try.prog G 24 [.agg [iC 0, sC ⟨#[]⟩, iC 0, .v (.sl []), .v (.sl []), .v (.sl [])], .agg c1.c] (DoA (v, r1, 0)) ∧ PCall Try.prog G 24 [.agg v.c, .agg c2.c] (DoA (zeroV, r2, 0)) := by
    intro c1 c2 v r1 r2 h1 h2 h3
    have d1 := Do_c (G := G) zeroV c1 zeroV_small
    have d2 := Do_c (G := G) v c2 h2.small
    rw [h1, zeroA] at d1
    rw [h3] at d2
    exact ⟨d1, d2⟩
  have z1 : cmpB fS fS = 0 := cmpB_self _
  have z2 : cmpB t t = 0 := cmpB_self _
  have z3 : lessB t t = false := by rw [lessB_eq, z2]; simp
  rcases q with q | q | q | q | q
  · have o1 : checkC ⟨4, kS, fS, t, 0⟩ = 0 := cmd_form (by omega) (by omega) (.inl ⟨.inl rfl, rfl⟩) (.inl ⟨ht, by omega⟩) (.inr rfl)
    have o2 : checkC ⟨6, kS, fS, eS, 0⟩ = 0 := cmd_form (by omega) (by omega) (.inl ⟨by omega, rfl⟩) (.inr rfl) (.inr rfl)
    have b1 : hashIn [] fS = false := rfl
    have b2 : hashAt [] fS = 0 := rfl
    have b3 : hashAt [(fS, t)] fS = 0 := by unfold hashAt plc; simp [z1]
    have b4 : hashIn [(fS, t)] fS = true := by unfold hashIn at_api_Pair; rw [b3]; simp [z1]
    obtain ⟨e1, ok⟩ := one_made (v := ⟨3, eS, 0, [(fS, t)], [], []⟩) (r := toldR 1) o1 rfl (by unfold doV hashV; simp [kindOfC, b1, b2, ins]) rfl rfl (by show (3 : Int) ≤ 3; omega)
    have e2 := last_gone (w := ⟨3, eS, 0, [], [], []⟩) (r := toldR 1) ok o2 (by show (6 : Int) ≤ 16; omega) rfl (by unfold doV hashV; simp [b3, b4, del]) rfl rfl (by show (3 : Int) ≤ 3; omega)
    obtain ⟨d1, d2⟩ := key _ _ _ _ _ e1 ok e2
    rw [q] at hpk
    simp only [DoA, Val.c, Rep.c, Cmd.c, toldR, zeroV, decide_true, List.map_nil, List.map_cons] at d1 d2 hz
    refine pcall mixed Try.func14 ok_rostrumkeep_LastGone rs_rostrumkeep_LastGone (by simp [Try.f14]) ?_
    unfold ac_rostrumkeep_LastGone
    repeat' (first | (with_reducible first | refine Cnd.intro (fun h => ?_) (fun h => ?_) | refine And.intro ?_ ?_ | refine Wk.refl ?_ | exact Weak.refl _ _ | refine weak_auto ?_ | apply awp_join) | ((try with_reducible refine CallZ.l ?_); with_reducible refine qcf (by first | exact hcut | exact hpk | exact d1 | exact d2 | exact hz) ?_ ?_) | ((try with_reducible refine CallZ.l ?_); with_reducible refine qcn (by first | exact qkc hcut (by with_unfolding_all rfl) | exact qkc hpk (by with_unfolding_all rfl) | exact qkc d1 (by with_unfolding_all rfl) | exact qkc d2 (by with_unfolding_all rfl) | exact qkc hz (by with_unfolding_all rfl)) ?_) | ((with_reducible refine qcz (by first | exact qkz hcut (by with_unfolding_all rfl) | exact qkz hpk (by with_unfolding_all rfl) | exact qkz d1 (by with_unfolding_all rfl) | exact qkz d2 (by with_unfolding_all rfl) | exact qkz hz (by with_unfolding_all rfl)) ?_); intro zh1 zq1; (try simp -dsimp [go_sem] at zq1); obtain ⟨rfl⟩ := zq1) | (with_reducible refine CallZ.z ?_) | simp -dsimp [go_sem])
  · have o1 : checkC ⟨7, kS, eS, t, 0⟩ = 0 := cmd_form (by omega) (by omega) (.inr ⟨by omega, rfl⟩) (.inl ⟨ht, by omega⟩) (.inr rfl)
    have o2 : checkC ⟨9, kS, eS, eS, 0⟩ = 0 := cmd_form (by omega) (by omega) (.inr ⟨by omega, rfl⟩) (.inr rfl) (.inr rfl)
    obtain ⟨e1, ok⟩ := one_made (v := ⟨4, eS, 0, [], [t], []⟩) (r := toldR 1) o1 rfl (by unfold doV listV; simp [kindOfC]) rfl rfl (by show (3 : Int) ≤ 4; omega)
    have e2 := last_gone (w := ⟨4, eS, 0, [], [], []⟩) (r := textR t) ok o2 (by show (9 : Int) ≤ 16; omega) rfl (by unfold doV listV; simp) rfl rfl (by show (3 : Int) ≤ 4; omega)
    obtain ⟨d1, d2⟩ := key _ _ _ _ _ e1 ok e2
    rw [q] at hpk
    simp only [DoA, Val.c, Rep.c, Cmd.c, toldR, textR, zeroV, decide_true, List.map_nil, List.map_cons] at d1 d2 hz
    refine pcall mixed Try.func14 ok_rostrumkeep_LastGone rs_rostrumkeep_LastGone (by simp [Try.f14]) ?_
    unfold ac_rostrumkeep_LastGone
    repeat' (first | (with_reducible first | refine Cnd.intro (fun h => ?_) (fun h => ?_) | refine And.intro ?_ ?_ | refine Wk.refl ?_ | exact Weak.refl _ _ | refine weak_auto ?_ | apply awp_join) | ((try with_reducible refine CallZ.l ?_); with_reducible refine qcf (by first | exact hcut | exact hpk | exact d1 | exact d2 | exact hz) ?_ ?_) | ((try with_reducible refine CallZ.l ?_); with_reducible refine qcn (by first | exact qkc hcut (by with_unfolding_all rfl) | exact qkc hpk (by with_unfolding_all rfl) | exact qkc d1 (by with_unfolding_all rfl) | exact qkc d2 (by with_unfolding_all rfl) | exact qkc hz (by with_unfolding_all rfl)) ?_) | ((with_reducible refine qcz (by first | exact qkz hcut (by with_unfolding_all rfl) | exact qkz hpk (by with_unfolding_all rfl) | exact qkz d1 (by with_unfolding_all rfl) | exact qkz d2 (by with_unfolding_all rfl) | exact qkz hz (by with_unfolding_all rfl)) ?_); intro zh1 zq1; (try simp -dsimp [go_sem] at zq1); obtain ⟨rfl⟩ := zq1) | (with_reducible refine CallZ.z ?_) | simp -dsimp [go_sem])
  · have o1 : checkC ⟨8, kS, eS, t, 0⟩ = 0 := cmd_form (by omega) (by omega) (.inr ⟨by omega, rfl⟩) (.inl ⟨ht, by omega⟩) (.inr rfl)
    have o2 : checkC ⟨10, kS, eS, eS, 0⟩ = 0 := cmd_form (by omega) (by omega) (.inr ⟨by omega, rfl⟩) (.inr rfl) (.inr rfl)
    obtain ⟨e1, ok⟩ := one_made (v := ⟨4, eS, 0, [], [t], []⟩) (r := toldR 1) o1 rfl (by unfold doV listV; simp [kindOfC]) rfl rfl (by show (3 : Int) ≤ 4; omega)
    have e2 := last_gone (w := ⟨4, eS, 0, [], [], []⟩) (r := textR t) ok o2 (by show (10 : Int) ≤ 16; omega) rfl (by unfold doV listV; simp) rfl rfl (by show (3 : Int) ≤ 4; omega)
    obtain ⟨d1, d2⟩ := key _ _ _ _ _ e1 ok e2
    rw [q] at hpk
    simp only [DoA, Val.c, Rep.c, Cmd.c, toldR, textR, zeroV, decide_true, List.map_nil, List.map_cons] at d1 d2 hz
    refine pcall mixed Try.func14 ok_rostrumkeep_LastGone rs_rostrumkeep_LastGone (by simp [Try.f14]) ?_
    unfold ac_rostrumkeep_LastGone
    repeat' (first | (with_reducible first | refine Cnd.intro (fun h => ?_) (fun h => ?_) | refine And.intro ?_ ?_ | refine Wk.refl ?_ | exact Weak.refl _ _ | refine weak_auto ?_ | apply awp_join) | ((try with_reducible refine CallZ.l ?_); with_reducible refine qcf (by first | exact hcut | exact hpk | exact d1 | exact d2 | exact hz) ?_ ?_) | ((try with_reducible refine CallZ.l ?_); with_reducible refine qcn (by first | exact qkc hcut (by with_unfolding_all rfl) | exact qkc hpk (by with_unfolding_all rfl) | exact qkc d1 (by with_unfolding_all rfl) | exact qkc d2 (by with_unfolding_all rfl) | exact qkc hz (by with_unfolding_all rfl)) ?_) | ((with_reducible refine qcz (by first | exact qkz hcut (by with_unfolding_all rfl) | exact qkz hpk (by with_unfolding_all rfl) | exact qkz d1 (by with_unfolding_all rfl) | exact qkz d2 (by with_unfolding_all rfl) | exact qkz hz (by with_unfolding_all rfl)) ?_); intro zh1 zq1; (try simp -dsimp [go_sem] at zq1); obtain ⟨rfl⟩ := zq1) | (with_reducible refine CallZ.z ?_) | simp -dsimp [go_sem])
  · have o1 : checkC ⟨11, kS, eS, t, 0⟩ = 0 := cmd_form (by omega) (by omega) (.inr ⟨by omega, rfl⟩) (.inl ⟨ht, by omega⟩) (.inr rfl)
    have o2 : checkC ⟨12, kS, eS, t, 0⟩ = 0 := cmd_form (by omega) (by omega) (.inr ⟨by omega, rfl⟩) (.inl ⟨ht, by omega⟩) (.inr rfl)
    have b1 : setIn [] t = false := rfl
    have b2 : setAt [] t = 0 := rfl
    have b3 : setAt [t] t = 0 := by unfold setAt plc; simp [z3]
    have b4 : setIn [t] t = true := by unfold setIn at_string; rw [b3]; simp
    obtain ⟨e1, ok⟩ := one_made (v := ⟨5, eS, 0, [], [t], []⟩) (r := toldR 1) o1 rfl (by unfold doV setV; simp [kindOfC, b1, b2, ins]) rfl rfl (by show (3 : Int) ≤ 5; omega)
    have e2 := last_gone (w := ⟨5, eS, 0, [], [], []⟩) (r := toldR 1) ok o2 (by show (12 : Int) ≤ 16; omega) rfl (by unfold doV setV; simp [b3, b4, del]) rfl rfl (by show (3 : Int) ≤ 5; omega)
    obtain ⟨d1, d2⟩ := key _ _ _ _ _ e1 ok e2
    rw [q] at hpk
    simp only [DoA, Val.c, Rep.c, Cmd.c, toldR, textR, zeroV, decide_true, List.map_nil, List.map_cons] at d1 d2 hz
    refine pcall mixed Try.func14 ok_rostrumkeep_LastGone rs_rostrumkeep_LastGone (by simp [Try.f14]) ?_
    unfold ac_rostrumkeep_LastGone
    repeat' (first | (with_reducible first | refine Cnd.intro (fun h => ?_) (fun h => ?_) | refine And.intro ?_ ?_ | refine Wk.refl ?_ | exact Weak.refl _ _ | refine weak_auto ?_ | apply awp_join) | ((try with_reducible refine CallZ.l ?_); with_reducible refine qcf (by first | exact hcut | exact hpk | exact d1 | exact d2 | exact hz) ?_ ?_) | ((try with_reducible refine CallZ.l ?_); with_reducible refine qcn (by first | exact qkc hcut (by with_unfolding_all rfl) | exact qkc hpk (by with_unfolding_all rfl) | exact qkc d1 (by with_unfolding_all rfl) | exact qkc d2 (by with_unfolding_all rfl) | exact qkc hz (by with_unfolding_all rfl)) ?_) | ((with_reducible refine qcz (by first | exact qkz hcut (by with_unfolding_all rfl) | exact qkz hpk (by with_unfolding_all rfl) | exact qkz d1 (by with_unfolding_all rfl) | exact qkz d2 (by with_unfolding_all rfl) | exact qkz hz (by with_unfolding_all rfl)) ?_); intro zh1 zq1; (try simp -dsimp [go_sem] at zq1); obtain ⟨rfl⟩ := zq1) | (with_reducible refine CallZ.z ?_) | simp -dsimp [go_sem])
  · have o1 : checkC ⟨14, kS, eS, t, 3⟩ = 0 := cmd_form (by omega) (by omega) (.inr ⟨by omega, rfl⟩) (.inl ⟨ht, by omega⟩) (.inl ⟨rfl, by omega⟩)
    have o2 : checkC ⟨15, kS, eS, t, 0⟩ = 0 := cmd_form (by omega) (by omega) (.inr ⟨by omega, rfl⟩) (.inl ⟨ht, by omega⟩) (.inr rfl)
    have b1 : rankOf [] t = -1 := rfl
    have b2 : rankCut [] t = [] := rfl
    have b3 : rankAt [] t 3 = 0 := rfl
    have b4 : rankOf [(t, 3)] t = 0 := by unfold rankOf firstI; simp
    have b5 : rankCut [(t, 3)] t = [] := by unfold rankCut; rw [b4]; simp [del]
    obtain ⟨e1, ok⟩ := one_made (v := ⟨6, eS, 0, [], [], [(t, 3)]⟩) (r := toldR 1) o1 rfl (by unfold doV ranksV; simp [kindOfC, b1, b2, b3, ins]) rfl rfl (by show (3 : Int) ≤ 6; omega)
    have e2 := last_gone (w := ⟨6, eS, 0, [], [], []⟩) (r := toldR 1) ok o2 (by show (15 : Int) ≤ 16; omega) rfl (by unfold doV ranksV; simp [b4, b5]) rfl rfl (by show (3 : Int) ≤ 6; omega)
    obtain ⟨d1, d2⟩ := key _ _ _ _ _ e1 ok e2
    rw [q] at hpk
    simp only [DoA, Val.c, Rep.c, Cmd.c, toldR, textR, zeroV, decide_true, List.map_nil, List.map_cons] at d1 d2 hz
    refine pcall mixed Try.func14 ok_rostrumkeep_LastGone rs_rostrumkeep_LastGone (by simp [Try.f14]) ?_
    unfold ac_rostrumkeep_LastGone
    repeat' (first | (with_reducible first | refine Cnd.intro (fun h => ?_) (fun h => ?_) | refine And.intro ?_ ?_ | refine Wk.refl ?_ | exact Weak.refl _ _ | refine weak_auto ?_ | apply awp_join) | ((try with_reducible refine CallZ.l ?_); with_reducible refine qcf (by first | exact hcut | exact hpk | exact d1 | exact d2 | exact hz) ?_ ?_) | ((try with_reducible refine CallZ.l ?_); with_reducible refine qcn (by first | exact qkc hcut (by with_unfolding_all rfl) | exact qkc hpk (by with_unfolding_all rfl) | exact qkc d1 (by with_unfolding_all rfl) | exact qkc d2 (by with_unfolding_all rfl) | exact qkc hz (by with_unfolding_all rfl)) ?_) | ((with_reducible refine qcz (by first | exact qkz hcut (by with_unfolding_all rfl) | exact qkz hpk (by with_unfolding_all rfl) | exact qkz d1 (by with_unfolding_all rfl) | exact qkz d2 (by with_unfolding_all rfl) | exact qkz hz (by with_unfolding_all rfl)) ?_); intro zh1 zq1; (try simp -dsimp [go_sem] at zq1); obtain ⟨rfl⟩ := zq1) | (with_reducible refine CallZ.z ?_) | simp -dsimp [go_sem])
end Go.Proofs.Ytacdeehkdepiaaa
