/- The functions PutGet, CommandBare and LastGone answer true. -/
import Derived.Test.YtacdeehkdepiaaaL2
set_option linter.unusedVariables false
set_option linter.unusedSimpArgs false
set_option maxRecDepth 100000
set_option maxHeartbeats 8000000
namespace Go.Proofs.Ytacdeehkdepiaaa
open Go Go.RowKit Go.Proofs.AE
variable {G : Nat → AV}
def ac_rostrumkeep_PutGet : ACode := .seq (.reg [⟨some 6, .assign (.const (.bool false)), none⟩]) (.seq (.reg [⟨some 14, .move (.tmp 2), none⟩,
    ⟨some 15, .call { callee := .value (.func 26), args := #[.tmp 14, .const (.int .i64 20)], argTypes := #[9, 3] }, none⟩,
    ⟨some 7, .assign (.tmp 15), none⟩]) (.seq (.reg [⟨some 17, .move (.tmp 0), none⟩,
    ⟨some 18, .move (.tmp 1), none⟩,
    ⟨some 19, .call { callee := .value (.func 27), args := #[.tmp 17, .tmp 18], argTypes := #[3, 22] }, none⟩,
    ⟨some 20, .move (.tmp 7), none⟩,
    ⟨some 21, .build 34 #[(0, .const (.int .i64 1)), (1, .const (.string { data := #[107] })), (3, .tmp 20)], none⟩,
    ⟨some 22, .call { callee := .value (.func 24), args := #[.tmp 19, .tmp 21], argTypes := #[29, 34] }, none⟩,
    ⟨some 16, .move (.tmp 22), none⟩,
    ⟨some 23, .extract (.tmp 16) 0, none⟩,
    ⟨some 24, .extract (.tmp 16) 1, none⟩,
    ⟨some 25, .extract (.tmp 16) 2, none⟩,
    ⟨some 8, .alloc 29, none⟩,
    ⟨some 9, .alloc 37, none⟩,
    ⟨none, .store 29 (.tmp 8) (.tmp 23), none⟩,
    ⟨none, .store 37 (.tmp 9) (.tmp 24), none⟩,
    ⟨some 10, .assign (.tmp 25), none⟩]) (.seq (.reg [⟨some 27, .load 29 (.tmp 8), none⟩,
    ⟨some 28, .build 34 #[(0, .const (.int .i64 2)), (1, .const (.string { data := #[107] }))], none⟩,
    ⟨some 29, .call { callee := .value (.func 24), args := #[.tmp 27, .tmp 28], argTypes := #[29, 34] }, none⟩,
    ⟨some 26, .move (.tmp 29), none⟩,
    ⟨some 30, .extract (.tmp 26) 0, none⟩,
    ⟨some 31, .extract (.tmp 26) 1, none⟩,
    ⟨some 32, .extract (.tmp 26) 2, none⟩,
    ⟨some 11, .alloc 29, none⟩,
    ⟨some 12, .alloc 37, none⟩,
    ⟨none, .store 29 (.tmp 11) (.tmp 30), none⟩,
    ⟨none, .store 37 (.tmp 12) (.tmp 31), none⟩,
    ⟨some 13, .assign (.tmp 32), none⟩]) (.seq (.reg [⟨some 33, .move (.tmp 10), none⟩,
    ⟨some 34, .binOp .eql 31 (.tmp 33) (.const (.int .i64 0)) 31, none⟩,
    ⟨some 35, .move (.tmp 34), none⟩,
    ⟨some 36, .move (.tmp 13), some (35, true)⟩,
    ⟨some 37, .binOp .eql 31 (.tmp 36) (.const (.int .i64 0)) 31, some (35, true)⟩,
    ⟨some 38, .pick (.tmp 35) (.tmp 37) (.const (.bool false)), none⟩,
    ⟨some 39, .move (.tmp 38), none⟩,
    ⟨some 40, .fieldAddr 37 (.tmp 9) 0, some (39, true)⟩,
    ⟨some 41, .load 31 (.tmp 40), some (39, true)⟩,
    ⟨some 42, .binOp .eql 31 (.tmp 41) (.const (.int .i64 0)) 31, some (39, true)⟩,
    ⟨some 43, .pick (.tmp 39) (.tmp 42) (.const (.bool false)), none⟩,
    ⟨some 44, .move (.tmp 43), none⟩,
    ⟨some 45, .fieldAddr 37 (.tmp 12) 0, some (44, true)⟩,
    ⟨some 46, .load 31 (.tmp 45), some (44, true)⟩,
    ⟨some 47, .binOp .eql 31 (.tmp 46) (.const (.int .i64 0)) 31, some (44, true)⟩,
    ⟨some 48, .pick (.tmp 44) (.tmp 47) (.const (.bool false)), none⟩,
    ⟨some 49, .move (.tmp 48), none⟩,
    ⟨some 50, .fieldAddr 37 (.tmp 12) 1, some (49, true)⟩,
    ⟨some 51, .load 9 (.tmp 50), some (49, true)⟩,
    ⟨some 52, .move (.tmp 7), some (49, true)⟩,
    ⟨some 53, .binOp .eql 9 (.tmp 51) (.tmp 52) 9, some (49, true)⟩,
    ⟨some 54, .pick (.tmp 49) (.tmp 53) (.const (.bool false)), none⟩,
    ⟨some 55, .move (.tmp 54), none⟩,
    ⟨some 56, .fieldAddr 29 (.tmp 8) 0, some (55, true)⟩,
    ⟨some 57, .load 3 (.tmp 56), some (55, true)⟩,
    ⟨some 58, .binOp .eql 3 (.tmp 57) (.const (.int .i64 1)) 3, some (55, true)⟩,
    ⟨some 59, .pick (.tmp 55) (.tmp 58) (.const (.bool false)), none⟩,
    ⟨some 60, .move (.tmp 59), none⟩,
    ⟨some 61, .load 29 (.tmp 8), some (60, true)⟩,
    ⟨some 62, .load 29 (.tmp 11), some (60, true)⟩,
    ⟨some 63, .call { callee := .value (.func 25), args := #[.tmp 61, .tmp 62], argTypes := #[29, 29] }, some (60, true)⟩,
    ⟨some 64, .pick (.tmp 60) (.tmp 63) (.const (.bool false)), none⟩,
    ⟨some 6, .assign (.tmp 64), none⟩]) .ret))))
theorem rs_rostrumkeep_PutGet : Try.f4.results.toList = [.tmp 6] := rfl
theorem ok_rostrumkeep_PutGet : Try.f4.body.bind (comp Try.f4.ntmps) = some ac_rostrumkeep_PutGet := by kernel_rfl
def ac_rostrumkeep_CommandBare : ACode := .seq (.reg [⟨some 2, .box 24 (.tmp 0), none⟩,
    ⟨some 4, .assign (.const (.bool false)), none⟩]) (.seq (.reg [⟨some 10, .load 24 (.tmp 2), none⟩,
    ⟨some 11, .call { callee := .value (.func 23), args := #[.tmp 10], argTypes := #[24] }, none⟩,
    ⟨some 5, .alloc 34, none⟩,
    ⟨none, .store 34 (.tmp 5) (.tmp 11), none⟩]) (.seq (.seq (.reg [⟨some 12, .load 34 (.tmp 5), none⟩,
    ⟨some 13, .call { callee := .value (.func 33), args := #[.tmp 12], argTypes := #[34] }, none⟩,
    ⟨some 14, .binOp .neq 31 (.tmp 13) (.const (.int .i64 0)) 31, none⟩]) (.cond (.tmp 14) (.seq (.reg [⟨some 4, .assign (.const (.bool false)), none⟩]) .ret) .skip)) (.seq (.reg [⟨some 15, .load 34 (.tmp 5), none⟩,
    ⟨some 6, .alloc 34, none⟩,
    ⟨none, .store 34 (.tmp 6) (.tmp 15), none⟩]) (.seq (.seq (.reg [⟨some 16, .move (.tmp 1), none⟩,
    ⟨some 17, .call { callee := .value (.func 28), args := #[.tmp 16, .const (.int .i64 4)], argTypes := #[3, 3] }, none⟩]) (.block 0 (.seq (.reg [⟨some 20, .binOp .eql 3 (.tmp 17) (.const (.int .i64 0)) 3, none⟩,
    ⟨some 19, .assign (.tmp 20), none⟩]) (.cond (.tmp 19) (.reg [⟨some 21, .build 34 #[(0, .const (.int .i64 2)), (1, .const (.string { data := #[107] })), (3, .const (.string { data := #[120] }))], none⟩,
    ⟨none, .store 34 (.tmp 6) (.tmp 21), none⟩]) (.seq (.reg [⟨some 23, .binOp .eql 3 (.tmp 17) (.const (.int .i64 1)) 3, none⟩,
    ⟨some 22, .assign (.tmp 23), none⟩]) (.cond (.tmp 22) (.reg [⟨some 24, .build 34 #[(0, .const (.int .i64 7)), (1, .const (.string { data := #[107] })), (2, .const (.string { data := #[120] }))], none⟩,
    ⟨none, .store 34 (.tmp 6) (.tmp 24), none⟩]) (.seq (.reg [⟨some 26, .binOp .eql 3 (.tmp 17) (.const (.int .i64 2)) 3, none⟩,
    ⟨some 25, .assign (.tmp 26), none⟩]) (.cond (.tmp 25) (.reg [⟨some 27, .build 34 #[(0, .const (.int .i64 6)), (1, .const (.string { data := #[107] })), (2, .const (.string { data := #[102] })), (4, .const (.int .i64 1))], none⟩,
    ⟨none, .store 34 (.tmp 6) (.tmp 27), none⟩]) (.reg [⟨some 18, .build 34 #[(0, .const (.int .i64 22)), (1, .const (.string { data := #[107] }))], none⟩,
    ⟨none, .store 34 (.tmp 6) (.tmp 18), none⟩]))))))))) (.seq (.reg [⟨some 29, .build 29 #[], none⟩,
    ⟨some 30, .load 34 (.tmp 6), none⟩,
    ⟨some 31, .call { callee := .value (.func 24), args := #[.tmp 29, .tmp 30], argTypes := #[29, 34] }, none⟩,
    ⟨some 28, .move (.tmp 31), none⟩,
    ⟨some 32, .extract (.tmp 28) 0, none⟩,
    ⟨some 33, .extract (.tmp 28) 1, none⟩,
    ⟨some 34, .extract (.tmp 28) 2, none⟩,
    ⟨some 7, .alloc 29, none⟩,
    ⟨some 8, .alloc 37, none⟩,
    ⟨none, .store 29 (.tmp 7) (.tmp 32), none⟩,
    ⟨none, .store 37 (.tmp 8) (.tmp 33), none⟩,
    ⟨some 9, .assign (.tmp 34), none⟩]) (.seq (.reg [⟨some 35, .load 34 (.tmp 6), none⟩,
    ⟨some 36, .call { callee := .value (.func 33), args := #[.tmp 35], argTypes := #[34] }, none⟩,
    ⟨some 37, .binOp .eql 31 (.tmp 36) (.const (.int .i64 8)) 31, none⟩,
    ⟨some 38, .move (.tmp 37), none⟩,
    ⟨some 39, .move (.tmp 9), some (38, true)⟩,
    ⟨some 40, .binOp .eql 31 (.tmp 39) (.const (.int .i64 8)) 31, some (38, true)⟩,
    ⟨some 41, .pick (.tmp 38) (.tmp 40) (.const (.bool false)), none⟩,
    ⟨some 42, .move (.tmp 41), none⟩,
    ⟨some 43, .build 34 #[(0, .const (.int .i64 23)), (1, .const (.string { data := #[107] }))], some (42, true)⟩,
    ⟨some 44, .call { callee := .value (.func 33), args := #[.tmp 43], argTypes := #[34] }, some (42, true)⟩,
    ⟨some 45, .binOp .eql 31 (.tmp 44) (.const (.int .i64 3)) 31, some (42, true)⟩,
    ⟨some 46, .pick (.tmp 42) (.tmp 45) (.const (.bool false)), none⟩,
    ⟨some 4, .assign (.tmp 46), none⟩]) .ret))))))
theorem rs_rostrumkeep_CommandBare : Try.f17.results.toList = [.tmp 4] := rfl
theorem ok_rostrumkeep_CommandBare : Try.f17.body.bind (comp Try.f17.ntmps) = some ac_rostrumkeep_CommandBare := by kernel_rfl
abbrev kS : ByteArray := ⟨#[107]⟩
abbrev eS : ByteArray := ⟨#[]⟩
abbrev fS : ByteArray := ⟨#[102]⟩
theorem kS_ok : okField kS = true ∧ okField fS = true ∧ okText eS = true ∧ okField eS = false ∧ okCount 0 = true ∧ okCount 3 = true ∧ okText kS = true := ⟨rfl, rfl, rfl, rfl, rfl, rfl, rfl⟩
theorem cut_ok (s : ByteArray) {n : Int} (h0 : 0 ≤ n) (h : n ≤ 20) : okText (cutS s n) = true := by
  have := cutS_size s h0
  simp only [okText, decide_eq_true_eq]; omega
/-- Commands with the key k. -/
theorem cmd_form {k : Int} {f t : ByteArray} {n : Int} (h1 : 1 ≤ k) (h2 : k ≤ 21) (hf : (k = 4 ∨ k = 5 ∨ k = 6) ∧ okField f = true ∨ ¬ (k = 4 ∨ k = 5 ∨ k = 6) ∧ f = eS)
    (ht : okText t = true ∧ (k = 1 ∨ k = 4 ∨ k = 7 ∨ k = 8 ∨ k = 11 ∨ k = 12 ∨ k = 13 ∨ k = 14 ∨ k = 15 ∨ k = 16) ∨ t = eS) (hn : okCount n = true ∧ (k = 3 ∨ k = 14 ∨ k = 20) ∨ n = 0) : checkC ⟨k, kS, f, t, n⟩ = 0 := by
  have ht' : okText t = true := by rcases ht with h | h; exact h.1; rw [h]; rfl
  have hn' : okCount n = true := by rcases hn with h | h; exact h.1; rw [h]; rfl
  have hform : formOk k kS f t n = true := by
    unfold formOk
    have a1 : (k != 22) = true := by simp; omega
    have a2 : ((k == 4 || k == 5 || k == 6) || decide (f = eS)) = true := by
      rcases hf with h | h
      · rcases h.1 with e | e | e <;> simp [e]
      · simp [h.2]
    have a3 : ((k == 1 || k == 4 || k == 7 || k == 8 || k == 11 || k == 12 || k == 13 || k == 14 || k == 15 || k == 16) || decide (t = eS)) = true := by
      rcases ht with h | h
      · rcases h.2 with e | e | e | e | e | e | e | e | e | e <;> simp [e]
      · simp [h]
    have a4 : ((k == 3 || k == 14 || k == 20) || n == 0) = true := by
      rcases hn with h | h
      · rcases h.2 with e | e | e <;> simp [e]
      · simp [h]
    rw [a1, a2, a3, a4]; rfl
  unfold checkC checkCommand
  simp only
  rw [if_neg (by omega), if_neg (by omega), if_neg (by rw [hform]; simp)]
  have b : ((k != 22 && !okField kS || ((k == 4 || k == 5 || k == 6) && !okField f)) || !okText t) = false := by
    rw [kS_ok.1, ht']
    rcases hf with h | h
    · rw [h.2]; simp
    · have : (k == 4 || k == 5 || k == 6) = false := by
        have := h.1
        simp; omega
      rw [this]; simp
  rw [b, hn']
  simp
def putC (t : ByteArray) : Cmd := ⟨1, kS, eS, t, 0⟩
def getC : Cmd := ⟨2, kS, eS, eS, 0⟩
def putV (t : ByteArray) : Val := ⟨1, t, 0, [], [], []⟩
theorem putC_ok {t : ByteArray} (h : okText t = true) : checkC (putC t) = 0 := cmd_form (by omega) (by omega) (.inr ⟨by omega, rfl⟩) (.inl ⟨h, .inl rfl⟩) (.inr rfl)
theorem getC_ok : checkC getC = 0 := cmd_form (by omega) (by omega) (.inr ⟨by omega, rfl⟩) (.inr rfl) (.inr rfl)
theorem put_any {v : Val} {t : ByteArray} (h : Vk v) (ht : okText t = true) : DoV v (putC t) = (putV t, toldR 0, 0) := by
  have hd : ∀ v, doV v (putC t) = (putV t, toldR 0) := fun v => by unfold doV; simp [putC, putV]
  rcases h with h | h
  · rw [DoV_go (checkV_iff.2 h) (putC_ok ht) (by show (1 : Int) ≤ 18; omega) (by simp [putC, kindOfC]), hd]
    exact DoEnd_some rfl (fun h => absurd h.1 (by show ¬ (3 : Int) ≤ 1; omega))
  · rw [h, DoV_zero (putC_ok ht) (by show (1 : Int) ≤ 18; omega), if_pos (show makesC _ = true from rfl), hd]
    exact DoEnd_some rfl (fun h => absurd h.1 (by show ¬ (3 : Int) ≤ 1; omega))
theorem putV_ok {t : ByteArray} (h : okText t = true) : OkV (putV t) :=
  ⟨⟨(by show (1 : Int) ≤ 1; omega), (by show (1 : Int) ≤ 6; omega)⟩, .inl rfl, .inr rfl, .inr rfl, .inr (.inr rfl), .inr rfl, fun h => absurd h (by show ¬ (3 : Int) ≤ 1; omega), h, by simp [putV], by simp [putV], by simp [putV], rfl, .nil, .nil, fun _ => .nil, .nil⟩
theorem get_put {t : ByteArray} (ht : okText t = true) : DoV (putV t) getC = (putV t, textR t, 0) := by
  rw [DoV_go (checkV_iff.2 (putV_ok ht)) getC_ok (by show (2 : Int) ≤ 18; omega) (by simp [getC, putV, kindOfC])]
  have : doV (putV t) getC = (putV t, textR t) := by unfold doV; simp [getC, putV]
  rw [this]
  exact DoEnd_some rfl (fun h => absurd h.1 (by show ¬ (3 : Int) ≤ 1; omega))
theorem putGet_c (kind : Int) (l : List Raw) (s : ByteArray) (hk : i64 kind) (hl : ∀ r ∈ l, r.Ok) (hn : (l.length : Int) ≤ 9223372036854775807) : PCall Try.prog G 4 [iV kind, .one (.v (.sl (l.map Raw.row))), sV s] (bV true) := by
  have hv := value_c (G := G) kind l hk hl hn
  have hvk := valueV_vk kind l hl
  have hcut := cut_c (G := G) s 20 (by omega)
  have ht := cut_ok s (n := 20) (by omega) (by omega)
  generalize cutS s 20 = t at *
  generalize valueV kind l = v at *
  have d1 := Do_c (G := G) v (putC t) hvk.small
  have d2 := Do_c (G := G) (putV t) getC (putV_ok ht).small
  rw [put_any hvk ht] at d1
  rw [get_put ht] at d2
  have hs := sameValue_c (G := G) (putV t) (putV t) (putV_ok ht).small
  simp only [DoA, Val.c, Rep.c, Cmd.c, toldR, textR, putV, putC, getC, decide_true, List.map_nil] at hv d1 d2 hs
  refine pcall mixed Try.func4 ok_rostrumkeep_PutGet rs_rostrumkeep_PutGet (by simp [Try.f4]) ?_
  unfold ac_rostrumkeep_PutGet
  repeat' (first | (with_reducible first | refine Cnd.intro (fun h => ?_) (fun h => ?_) | refine And.intro ?_ ?_ | refine Wk.refl ?_ | exact Weak.refl _ _ | refine weak_auto ?_ | apply awp_join) | ((try with_reducible refine CallZ.l ?_); with_reducible refine qcf (by first | exact hv | exact hcut | exact d1 | exact d2 | exact hs) ?_ ?_) | ((try with_reducible refine CallZ.l ?_); with_reducible refine qcn (by first | exact qkc hv (by with_unfolding_all rfl) | exact qkc hcut (by with_unfolding_all rfl) | exact qkc d1 (by with_unfolding_all rfl) | exact qkc d2 (by with_unfolding_all rfl) | exact qkc hs (by with_unfolding_all rfl)) ?_) | ((with_reducible refine qcz (by first | exact qkz hv (by with_unfolding_all rfl) | exact qkz hcut (by with_unfolding_all rfl) | exact qkz d1 (by with_unfolding_all rfl) | exact qkz d2 (by with_unfolding_all rfl) | exact qkz hs (by with_unfolding_all rfl)) ?_); intro zh1 zq1; (try simp -dsimp [go_sem] at zq1); obtain ⟨rfl⟩ := zq1) | (with_reducible refine CallZ.z ?_) | simp -dsimp [go_sem])
theorem bareC (c : Cmd) (h : checkC c = 8) : DoV zeroV c = (zeroV, toldR 0, 8) := by
  unfold DoV
  rw [zero_none]
  simp only [Bool.true_eq_false, and_false, if_false]
  rw [if_pos (by rw [h]; simp), h]
theorem commandBare_c (r : Raw) (which : Int) (h : r.Ok) (hw : i64 which) : PCall Try.prog G 17 [.agg [iC r.kind, iC r.key, iC r.field, iC r.n, sC r.text], iV which] (bV true) := by
  have hc := cmdR_ok h
  have hcm := commandR_c (G := G) r h
  have hpk := picked_c (G := G) which 4 hw (by omega)
  have hp := pk_range (n := which) (m := 4) (by omega)
  obtain ⟨c, hce⟩ : ∃ c, cmdR r = c := ⟨_, rfl⟩
  rw [hce] at hc hcm
  have hch := check_c (G := G) c.kind c.key c.field c.text c.n
  change PCall Try.prog G _ _ (iV (checkC c)) at hch
  rw [hc] at hch
  obtain ⟨kk, key, f, tx, cn⟩ := c
  simp only [Cmd.c] at hcm hch
  have q : pk which 4 = 0 ∨ pk which 4 = 1 ∨ pk which 4 = 2 ∨ pk which 4 = 3 := by omega
  have z := check_c (G := G) 23 kS eS eS 0
  have ze : checkCommand 23 kS eS eS 0 = 3 := by rfl
  rw [ze] at z
  rcases q with q | q | q | q
  · rw [q] at hpk
    have e : checkC ⟨2, kS, eS, ⟨#[120]⟩, 0⟩ = 8 := by rfl
    have e1 := check_c (G := G) 2 kS eS ⟨#[120]⟩ 0
    have e2 : checkCommand 2 kS eS ⟨#[120]⟩ 0 = 8 := e
    rw [e2] at e1
    have d := Do_c (G := G) zeroV ⟨2, kS, eS, ⟨#[120]⟩, 0⟩ zeroV_small
    rw [bareC _ e, zeroA] at d
    simp only [DoA, Val.c, Rep.c, Cmd.c, toldR, zeroV, List.map_nil] at d
    refine pcall mixed Try.func17 ok_rostrumkeep_CommandBare rs_rostrumkeep_CommandBare (by simp [Try.f17]) ?_
    unfold ac_rostrumkeep_CommandBare
    repeat' (first | (with_reducible first | refine Cnd.intro (fun h => ?_) (fun h => ?_) | refine And.intro ?_ ?_ | refine Wk.refl ?_ | exact Weak.refl _ _ | refine weak_auto ?_ | apply awp_join) | ((try with_reducible refine CallZ.l ?_); with_reducible refine qcf (by first | exact hcm | exact hch | exact hpk | exact e1 | exact d | exact z) ?_ ?_) | ((try with_reducible refine CallZ.l ?_); with_reducible refine qcn (by first | exact qkc hcm (by with_unfolding_all rfl) | exact qkc hch (by with_unfolding_all rfl) | exact qkc hpk (by with_unfolding_all rfl) | exact qkc e1 (by with_unfolding_all rfl) | exact qkc d (by with_unfolding_all rfl) | exact qkc z (by with_unfolding_all rfl)) ?_) | ((with_reducible refine qcz (by first | exact qkz hcm (by with_unfolding_all rfl) | exact qkz hch (by with_unfolding_all rfl) | exact qkz hpk (by with_unfolding_all rfl) | exact qkz e1 (by with_unfolding_all rfl) | exact qkz d (by with_unfolding_all rfl) | exact qkz z (by with_unfolding_all rfl)) ?_); intro zh1 zq1; (try simp -dsimp [go_sem] at zq1); obtain ⟨rfl⟩ := zq1) | (with_reducible refine CallZ.z ?_) | simp -dsimp [go_sem])
  · rw [q] at hpk
    have e : checkC ⟨7, kS, ⟨#[120]⟩, eS, 0⟩ = 8 := by rfl
    have e1 := check_c (G := G) 7 kS ⟨#[120]⟩ eS 0
    have e2 : checkCommand 7 kS ⟨#[120]⟩ eS 0 = 8 := e
    rw [e2] at e1
    have d := Do_c (G := G) zeroV ⟨7, kS, ⟨#[120]⟩, eS, 0⟩ zeroV_small
    rw [bareC _ e, zeroA] at d
    simp only [DoA, Val.c, Rep.c, Cmd.c, toldR, zeroV, List.map_nil] at d
    refine pcall mixed Try.func17 ok_rostrumkeep_CommandBare rs_rostrumkeep_CommandBare (by simp [Try.f17]) ?_
    unfold ac_rostrumkeep_CommandBare
    repeat' (first | (with_reducible first | refine Cnd.intro (fun h => ?_) (fun h => ?_) | refine And.intro ?_ ?_ | refine Wk.refl ?_ | exact Weak.refl _ _ | refine weak_auto ?_ | apply awp_join) | ((try with_reducible refine CallZ.l ?_); with_reducible refine qcf (by first | exact hcm | exact hch | exact hpk | exact e1 | exact d | exact z) ?_ ?_) | ((try with_reducible refine CallZ.l ?_); with_reducible refine qcn (by first | exact qkc hcm (by with_unfolding_all rfl) | exact qkc hch (by with_unfolding_all rfl) | exact qkc hpk (by with_unfolding_all rfl) | exact qkc e1 (by with_unfolding_all rfl) | exact qkc d (by with_unfolding_all rfl) | exact qkc z (by with_unfolding_all rfl)) ?_) | ((with_reducible refine qcz (by first | exact qkz hcm (by with_unfolding_all rfl) | exact qkz hch (by with_unfolding_all rfl) | exact qkz hpk (by with_unfolding_all rfl) | exact qkz e1 (by with_unfolding_all rfl) | exact qkz d (by with_unfolding_all rfl) | exact qkz z (by with_unfolding_all rfl)) ?_); intro zh1 zq1; (try simp -dsimp [go_sem] at zq1); obtain ⟨rfl⟩ := zq1) | (with_reducible refine CallZ.z ?_) | simp -dsimp [go_sem])
  · rw [q] at hpk
    have e : checkC ⟨6, kS, fS, eS, 1⟩ = 8 := by rfl
    have e1 := check_c (G := G) 6 kS fS eS 1
    have e2 : checkCommand 6 kS fS eS 1 = 8 := e
    rw [e2] at e1
    have d := Do_c (G := G) zeroV ⟨6, kS, fS, eS, 1⟩ zeroV_small
    rw [bareC _ e, zeroA] at d
    simp only [DoA, Val.c, Rep.c, Cmd.c, toldR, zeroV, List.map_nil] at d
    refine pcall mixed Try.func17 ok_rostrumkeep_CommandBare rs_rostrumkeep_CommandBare (by simp [Try.f17]) ?_
    unfold ac_rostrumkeep_CommandBare
    repeat' (first | (with_reducible first | refine Cnd.intro (fun h => ?_) (fun h => ?_) | refine And.intro ?_ ?_ | refine Wk.refl ?_ | exact Weak.refl _ _ | refine weak_auto ?_ | apply awp_join) | ((try with_reducible refine CallZ.l ?_); with_reducible refine qcf (by first | exact hcm | exact hch | exact hpk | exact e1 | exact d | exact z) ?_ ?_) | ((try with_reducible refine CallZ.l ?_); with_reducible refine qcn (by first | exact qkc hcm (by with_unfolding_all rfl) | exact qkc hch (by with_unfolding_all rfl) | exact qkc hpk (by with_unfolding_all rfl) | exact qkc e1 (by with_unfolding_all rfl) | exact qkc d (by with_unfolding_all rfl) | exact qkc z (by with_unfolding_all rfl)) ?_) | ((with_reducible refine qcz (by first | exact qkz hcm (by with_unfolding_all rfl) | exact qkz hch (by with_unfolding_all rfl) | exact qkz hpk (by with_unfolding_all rfl) | exact qkz e1 (by with_unfolding_all rfl) | exact qkz d (by with_unfolding_all rfl) | exact qkz z (by with_unfolding_all rfl)) ?_); intro zh1 zq1; (try simp -dsimp [go_sem] at zq1); obtain ⟨rfl⟩ := zq1) | (with_reducible refine CallZ.z ?_) | simp -dsimp [go_sem])
  · rw [q] at hpk
    have e : checkC ⟨22, kS, eS, eS, 0⟩ = 8 := by rfl
    have e1 := check_c (G := G) 22 kS eS eS 0
    have e2 : checkCommand 22 kS eS eS 0 = 8 := e
    rw [e2] at e1
    have d := Do_c (G := G) zeroV ⟨22, kS, eS, eS, 0⟩ zeroV_small
    rw [bareC _ e, zeroA] at d
    simp only [DoA, Val.c, Rep.c, Cmd.c, toldR, zeroV, List.map_nil] at d
    refine pcall mixed Try.func17 ok_rostrumkeep_CommandBare rs_rostrumkeep_CommandBare (by simp [Try.f17]) ?_
    unfold ac_rostrumkeep_CommandBare
    repeat' (first | (with_reducible first | refine Cnd.intro (fun h => ?_) (fun h => ?_) | refine And.intro ?_ ?_ | refine Wk.refl ?_ | exact Weak.refl _ _ | refine weak_auto ?_ | apply awp_join) | ((try with_reducible refine CallZ.l ?_); with_reducible refine qcf (by first | exact hcm | exact hch | exact hpk | exact e1 | exact d | exact z) ?_ ?_) | ((try with_reducible refine CallZ.l ?_); with_reducible refine qcn (by first | exact qkc hcm (by with_unfolding_all rfl) | exact qkc hch (by with_unfolding_all rfl) | exact qkc hpk (by with_unfolding_all rfl) | exact qkc e1 (by with_unfolding_all rfl) | exact qkc d (by with_unfolding_all rfl) | exact qkc z (by with_unfolding_all rfl)) ?_) | ((with_reducible refine qcz (by first | exact qkz hcm (by with_unfolding_all rfl) | exact qkz hch (by with_unfolding_all rfl) | exact qkz hpk (by with_unfolding_all rfl) | exact qkz e1 (by with_unfolding_all rfl) | exact qkz d (by with_unfolding_all rfl) | exact qkz z (by with_unfolding_all rfl)) ?_); intro zh1 zq1; (try simp -dsimp [go_sem] at zq1); obtain ⟨rfl⟩ := zq1) | (with_reducible refine CallZ.z ?_) | simp -dsimp [go_sem])
end Go.Proofs.Ytacdeehkdepiaaa
