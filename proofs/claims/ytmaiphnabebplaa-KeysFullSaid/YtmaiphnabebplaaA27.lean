/- KeysFull: the walk. -/
import Derived.Test.YtmaiphnabebplaaA15
import Derived.Test.YtmaiphnabebplaaA9
set_option linter.unusedVariables false
set_option linter.unusedSimpArgs false
set_option maxRecDepth 100000
set_option maxHeartbeats 8000000
namespace Go.Proofs.Ytmaiphnabebplaa
open Go Go.RowKit Go.Proofs.AE
def ac_rostrumkeep_KeysFull : ACode := .seq (.reg [⟨some 2, .assign (.const (.bool false)), none⟩]) (.seq (.reg [⟨some 12, .move (.tmp 0), none⟩,
    ⟨some 13, .call { callee := .value (.func 16), args := #[.tmp 12, .const (.int .i64 24)], argTypes := #[3, 3] }, none⟩,
    ⟨some 3, .assign (.tmp 13), none⟩]) (.seq (.reg [⟨some 4, .alloc 29, none⟩]) (.seq (.seq (.reg [⟨some 5, .assign (.const (.int .i64 0)), none⟩]) (.block 0 (.loop (.seq (.seq (.reg [⟨some 14, .move (.tmp 5), none⟩,
    ⟨some 15, .move (.tmp 3), none⟩,
    ⟨some 16, .binOp .lss 3 (.tmp 14) (.tmp 15) 3, none⟩]) (.cond (.tmp 16) .skip (.exit 0))) (.seq (.block 1 (.seq (.reg [⟨some 20, .load 29 (.tmp 4), none⟩,
    ⟨some 21, .move (.tmp 5), none⟩,
    ⟨some 22, .binOp .add 3 (.const (.int .i64 65)) (.tmp 21) 3, none⟩,
    ⟨some 23, .convert 3 5 (.tmp 22), none⟩,
    ⟨some 24, .buildSlice 62 1 #[(0, .tmp 23)], none⟩,
    ⟨some 25, .convert 62 9 (.tmp 24), none⟩,
    ⟨some 26, .build 39 #[(0, .const (.int .i64 11)), (1, .tmp 25), (3, .const (.string { data := #[120] }))], none⟩,
    ⟨some 27, .call { callee := .value (.func 17), args := #[.tmp 20, .const (.int .i64 0), .tmp 26], argTypes := #[29, 3, 39] }, none⟩,
    ⟨some 19, .move (.tmp 27), none⟩,
    ⟨some 28, .extract (.tmp 19) 0, none⟩,
    ⟨some 29, .extract (.tmp 19) 1, none⟩,
    ⟨some 30, .extract (.tmp 19) 2, none⟩,
    ⟨some 6, .alloc 29, none⟩,
    ⟨some 7, .alloc 35, none⟩,
    ⟨none, .store 29 (.tmp 6) (.tmp 28), none⟩,
    ⟨none, .store 35 (.tmp 7) (.tmp 29), none⟩,
    ⟨some 8, .assign (.tmp 30), none⟩]) (.seq (.seq (.reg [⟨some 31, .move (.tmp 8), none⟩,
    ⟨some 32, .binOp .neq 32 (.tmp 31) (.const (.int .i64 0)) 32, none⟩,
    ⟨some 33, .move (.tmp 32), none⟩,
    ⟨some 34, .fieldAddr 35 (.tmp 7) 0, some (33, false)⟩,
    ⟨some 35, .load 32 (.tmp 34), some (33, false)⟩,
    ⟨some 36, .binOp .eql 32 (.tmp 35) (.const (.int .i64 6)) 32, some (33, false)⟩,
    ⟨some 37, .move (.tmp 5), some (33, false)⟩,
    ⟨some 38, .binOp .geq 3 (.tmp 37) (.const (.int .i64 12)) 3, some (33, false)⟩,
    ⟨some 39, .binOp .neq 4 (.tmp 36) (.tmp 38) 4, some (33, false)⟩,
    ⟨some 40, .pick (.tmp 33) (.const (.bool true)) (.tmp 39), none⟩]) (.cond (.tmp 40) (.seq (.reg [⟨some 2, .assign (.const (.bool false)), none⟩]) .ret) .skip)) (.reg [⟨some 41, .load 29 (.tmp 6), none⟩,
    ⟨none, .store 29 (.tmp 4) (.tmp 41), none⟩])))) (.reg [⟨some 17, .move (.tmp 5), none⟩,
    ⟨some 18, .binOp .add 3 (.tmp 17) (.const (.int .i64 1)) 3, none⟩,
    ⟨some 5, .assign (.tmp 18), none⟩])))))) (.seq (.reg [⟨some 43, .load 29 (.tmp 4), none⟩,
    ⟨some 44, .build 39 #[(0, .const (.int .i64 1)), (1, .const (.string { data := #[65] }))], none⟩,
    ⟨some 45, .call { callee := .value (.func 17), args := #[.tmp 43, .const (.int .i64 0), .tmp 44], argTypes := #[29, 3, 39] }, none⟩,
    ⟨some 42, .move (.tmp 45), none⟩,
    ⟨some 46, .extract (.tmp 42) 0, none⟩,
    ⟨some 47, .extract (.tmp 42) 1, none⟩,
    ⟨some 48, .extract (.tmp 42) 2, none⟩,
    ⟨some 9, .alloc 29, none⟩,
    ⟨some 10, .alloc 35, none⟩,
    ⟨none, .store 29 (.tmp 9) (.tmp 46), none⟩,
    ⟨none, .store 35 (.tmp 10) (.tmp 47), none⟩,
    ⟨some 11, .assign (.tmp 48), none⟩]) (.seq (.reg [⟨some 49, .move (.tmp 11), none⟩,
    ⟨some 50, .binOp .eql 32 (.tmp 49) (.const (.int .i64 0)) 32, none⟩,
    ⟨some 51, .move (.tmp 50), none⟩,
    ⟨some 52, .fieldAddr 35 (.tmp 10) 0, some (51, true)⟩,
    ⟨some 53, .load 32 (.tmp 52), some (51, true)⟩,
    ⟨some 54, .binOp .eql 32 (.tmp 53) (.const (.int .i64 0)) 32, some (51, true)⟩,
    ⟨some 55, .pick (.tmp 51) (.tmp 54) (.const (.bool false)), none⟩,
    ⟨some 56, .move (.tmp 55), none⟩,
    ⟨some 57, .fieldAddr 29 (.tmp 4) 1, some (56, true)⟩,
    ⟨some 58, .load 27 (.tmp 57), some (56, true)⟩,
    ⟨some 59, .call { callee := .builtin .len, args := #[.tmp 58], argTypes := #[27] }, some (56, true)⟩,
    ⟨some 60, .move (.tmp 3), some (56, true)⟩,
    ⟨some 61, .call { callee := .builtin .min, args := #[.tmp 60, .const (.int .i64 12)], argTypes := #[3, 3] }, some (56, true)⟩,
    ⟨some 62, .binOp .eql 3 (.tmp 59) (.tmp 61) 3, some (56, true)⟩,
    ⟨some 63, .pick (.tmp 56) (.tmp 62) (.const (.bool false)), none⟩,
    ⟨some 64, .move (.tmp 63), none⟩,
    ⟨some 65, .fieldAddr 29 (.tmp 9) 1, some (64, true)⟩,
    ⟨some 66, .load 27 (.tmp 65), some (64, true)⟩,
    ⟨some 67, .call { callee := .builtin .len, args := #[.tmp 66], argTypes := #[27] }, some (64, true)⟩,
    ⟨some 68, .fieldAddr 29 (.tmp 4) 1, some (64, true)⟩,
    ⟨some 69, .load 27 (.tmp 68), some (64, true)⟩,
    ⟨some 70, .call { callee := .builtin .len, args := #[.tmp 69], argTypes := #[27] }, some (64, true)⟩,
    ⟨some 71, .call { callee := .builtin .max, args := #[.tmp 70, .const (.int .i64 1)], argTypes := #[3, 3] }, some (64, true)⟩,
    ⟨some 72, .binOp .eql 3 (.tmp 67) (.tmp 71) 3, some (64, true)⟩,
    ⟨some 73, .pick (.tmp 64) (.tmp 72) (.const (.bool false)), none⟩,
    ⟨some 2, .assign (.tmp 73), none⟩]) .ret)))))
theorem rs_rostrumkeep_KeysFull : Try.f10.results.toList = [.tmp 2] := rfl
theorem ok_rostrumkeep_KeysFull : Try.f10.body.bind (comp Try.f10.ntmps) = some ac_rostrumkeep_KeysFull := by kernel_rfl
variable {G : Nat → AV}
def cK (i : Nat) : Cmd := ⟨11, ⟨#[UInt8.ofNat (65 + (i : Int)).toNat]⟩, ⟨#[]⟩, ⟨#[120]⟩, 0⟩
def cA : Cmd := ⟨1, ⟨#[65]⟩, ⟨#[]⟩, ⟨#[]⟩, 0⟩
def kf : Nat → Sto
  | 0 => zeroS
  | i + 1 => (ApplyS (kf i) 0 (cK i)).1
def kfB (i : Nat) : Bool := checkS (kf i) == 0 && ((ApplyS (kf i) 0 (cK i)).2.2 == 0) && (((ApplyS (kf i) 0 (cK i)).2.1.code == 6) == decide (12 ≤ i)) && (kf i).ents.length == min i 12 && ((ApplyS (kf i) 0 cA).2.2 == 0) && ((ApplyS (kf i) 0 cA).2.1.code == 0) && (ApplyS (kf i) 0 cA).1.ents.length == max (min i 12) 1
theorem kfAll : (List.range 24).all kfB = true := by decide +kernel
theorem kf_fact {i : Nat} (h : i < 24) : OkS (kf i) ∧ (∃ r, ApplyS (kf i) 0 (cK i) = (kf (i + 1), r, 0) ∧ (r.code == 6) = decide (12 ≤ i)) ∧ (kf i).ents.length = min i 12 ∧ ∃ s r, ApplyS (kf i) 0 cA = (s, r, 0) ∧ r.code = 0 ∧ s.ents.length = max (min i 12) 1 := by
  have := List.all_eq_true.1 kfAll i (List.mem_range.2 h)
  unfold kfB at this
  simp only [Bool.and_eq_true, beq_iff_eq] at this
  obtain ⟨⟨⟨⟨⟨⟨h1, h2⟩, h3⟩, h4⟩, h5⟩, h6⟩, h7⟩ := this
  exact ⟨checkS_iff.1 h1, ⟨_, Prod.ext rfl (Prod.ext rfl h2), h3⟩, h4, _, _, Prod.ext rfl (Prod.ext rfl h5), h6, h7⟩
theorem keysFull_c (n : Int) (hn : i64 n) : PCall Try.prog G 10 [iV n] (bV true) := by
  have hp := pk_range (n := n) (m := 24) (by omega)
  have hpk := picked_c (G := G) n 24 hn (by omega)
  obtain ⟨p, hpp⟩ : ∃ p : Nat, pk n 24 = (p : Int) := ⟨(pk n 24).toNat, by omega⟩
  rw [hpp] at hp hpk
  refine pcall mixed Try.func10 ok_rostrumkeep_KeysFull rs_rostrumkeep_KeysFull (by simp [Try.f10]) ?_
  unfold ac_rostrumkeep_KeysFull
  repeat' (first | (with_reducible first | refine Cnd.intro (fun h => ?_) (fun h => ?_) | refine And.intro ?_ ?_ | refine Wk.refl ?_ | exact Weak.refl _ _ | refine weak_auto ?_ | apply awp_join) | ((try with_reducible refine CallZ.l ?_); with_reducible refine qcf (by first | exact hpk) ?_ ?_) | ((try with_reducible refine CallZ.l ?_); with_reducible refine qcn (by first | exact qkc hpk (by with_unfolding_all rfl)) ?_) | ((with_reducible refine qcz (by first | exact qkz hpk (by with_unfolding_all rfl)) ?_); intro zh1 zq1; (try simp -dsimp [go_sem] at zq1); obtain ⟨rfl⟩ := zq1) | (with_reducible refine CallZ.z ?_) | simp -dsimp [go_sem])
  refine awp_loop (fun i : Nat => ⟨[(2, bV false), (3, iV p), (4, .one (.ptr 0 0)), (5, iV i)], G, [some (.box 29 (kf i).c)]⟩) (fun i => i ≤ p) (fun i => p - i) 0 (weak_auto ?_) (Nat.zero_le _) ?_
  · simp -dsimp [go_sem, kf, zeroS, Sto.c]
  · intro i hi
    obtain ⟨ok, ⟨r, e1, hc⟩, hlen, s2, r2, e2, hc2, hlen2⟩ := kf_fact (i := i) (by omega)
    have h1 := apply_c (G := G) (kf i) 0 (cK i) ok.small
    rw [e1] at h1
    have h2 := apply_c (G := G) (kf i) 0 cA ok.small
    rw [e2] at h2
    have e4 : IntKind.i64.wrap ((i : Int) + 1) = (i : Int) + 1 := IntWalk.i64_in _ (by omega)
    have hw : IntKind.i64.wrap (65 + (i : Int)) = 65 + (i : Int) := IntWalk.i64_in _ (by omega)
    have hw8 : IntKind.u8.wrap (65 + (i : Int)) = 65 + (i : Int) := IntWalk.u8_in _ (by omega)
    obtain ⟨s, hs⟩ : ∃ s, kf i = s := ⟨_, rfl⟩
    obtain ⟨s', hs'⟩ : ∃ s, kf (i + 1) = s := ⟨_, rfl⟩
    rw [hs, hs'] at h1
    rw [hs] at h2 hlen ⊢
    obtain ⟨now, ents⟩ := s
    obtain ⟨now', ents'⟩ := s'
    obtain ⟨now2, ents2⟩ := s2
    simp only [ApA, Sto.c, Cmd.c, Rep.c, cK, cA] at h1 h2 hlen hlen2 ⊢
    by_cases hlt : i < p
    · have q1 : decide (i < p) = true := by simpa using hlt
      by_cases h12 : 12 ≤ i
      · have q2 : (r.code == (6 : Int)) = true := by rw [hc]; simpa using h12
        have q3 : decide ((12 : Int) ≤ (i : Int)) = true := by simp; omega
        have q4 : decide (12 ≤ i) = true := by simpa using h12
        repeat' (first | (with_reducible first | refine Cnd.intro (fun h => ?_) (fun h => ?_) | refine And.intro ?_ ?_ | refine Wk.refl ?_ | exact Weak.refl _ _ | refine weak_autoC ?_ | apply awp_join) | ((try with_reducible refine CallZ.l ?_); with_reducible refine qcf (by first | exact h1) ?_ ?_) | ((try with_reducible refine CallZ.l ?_); with_reducible refine qcn (by first | exact qkc h1 (by with_unfolding_all rfl)) ?_) | ((with_reducible refine qcz (by first | exact qkz h1 (by with_unfolding_all rfl)) ?_); intro zh1 zq1; (try simp -dsimp [go_sem] at zq1); obtain ⟨rfl⟩ := zq1) | (with_reducible refine CallZ.z ?_) | simp -dsimp [go_sem, e4, hw, hw8, bytesOf, AE.byteOf, q1, q2, q3, q4, clean_nil, clean_cons, clean_yes, clean_no])
        all_goals first
          | omega
          | (refine Again.auto (i + 1) ?_ hlt ?_
             · simp -dsimp [go_sem, hs', Sto.c]
             · show p - (i + 1) < p - i; omega)
          | trace_state
      · have q2 : (r.code == (6 : Int)) = false := by rw [hc]; simpa using h12
        have q3 : decide ((12 : Int) ≤ (i : Int)) = false := by simp; omega
        have q4 : decide (12 ≤ i) = false := by simpa using h12
        repeat' (first | (with_reducible first | refine Cnd.intro (fun h => ?_) (fun h => ?_) | refine And.intro ?_ ?_ | refine Wk.refl ?_ | exact Weak.refl _ _ | refine weak_autoC ?_ | apply awp_join) | ((try with_reducible refine CallZ.l ?_); with_reducible refine qcf (by first | exact h1) ?_ ?_) | ((try with_reducible refine CallZ.l ?_); with_reducible refine qcn (by first | exact qkc h1 (by with_unfolding_all rfl)) ?_) | ((with_reducible refine qcz (by first | exact qkz h1 (by with_unfolding_all rfl)) ?_); intro zh1 zq1; (try simp -dsimp [go_sem] at zq1); obtain ⟨rfl⟩ := zq1) | (with_reducible refine CallZ.z ?_) | simp -dsimp [go_sem, e4, hw, hw8, bytesOf, AE.byteOf, q1, q2, q3, q4, clean_nil, clean_cons, clean_yes, clean_no])
        all_goals first
          | omega
          | (refine Again.auto (i + 1) ?_ hlt ?_
             · simp -dsimp [go_sem, hs', Sto.c]
             · show p - (i + 1) < p - i; omega)
          | trace_state
    · have hip : i = p := by omega
      subst hip
      have q1 : decide (i < i) = false := by simp
      have l1 : ((ents.length : Int) == if 12 < (i : Int) then 12 else (i : Int)) = true := by rw [beq_iff_eq, hlen]; split <;> omega
      have l2 : ((ents2.length : Int) == if (ents.length : Int) < 1 then 1 else (ents.length : Int)) = true := by rw [beq_iff_eq, hlen2, hlen]; split <;> omega
      have q2 : (r2.code == (0 : Int)) = true := by rw [hc2]; rfl
      repeat' (first | (with_reducible first | refine Cnd.intro (fun h => ?_) (fun h => ?_) | refine And.intro ?_ ?_ | refine Wk.refl ?_ | exact Weak.refl _ _ | refine weak_autoC ?_ | apply awp_join) | ((try with_reducible refine CallZ.l ?_); with_reducible refine qcf (by first | exact h2) ?_ ?_) | ((try with_reducible refine CallZ.l ?_); with_reducible refine qcn (by first | exact qkc h2 (by with_unfolding_all rfl)) ?_) | ((with_reducible refine qcz (by first | exact qkz h2 (by with_unfolding_all rfl)) ?_); intro zh1 zq1; (try simp -dsimp [go_sem] at zq1); obtain ⟨rfl⟩ := zq1) | (with_reducible refine CallZ.z ?_) | simp -dsimp [go_sem, q1, q2, l1, l2, clean_nil, clean_cons, clean_yes, clean_no])
      all_goals trace_state
end Go.Proofs.Ytmaiphnabebplaa
