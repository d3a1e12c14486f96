/- The function EndsMeet answers true. -/
import Derived.Test.YtacdeehkdepiaaaL6
set_option linter.unusedVariables false
set_option linter.unusedSimpArgs false
set_option maxRecDepth 100000
set_option maxHeartbeats 8000000
namespace Go.Proofs.Ytacdeehkdepiaaa
open Go Go.RowKit Go.Proofs.AE
variable {G : Nat → AV}
def ac_rostrumkeep_EndsMeet : ACode := .seq (.reg [⟨some 6, .assign (.const (.bool false)), none⟩]) (.seq (.reg [⟨some 17, .move (.tmp 0), none⟩,
    ⟨some 18, .move (.tmp 0), none⟩,
    ⟨some 19, .call { callee := .builtin .len, args := #[.tmp 18], argTypes := #[22] }, none⟩,
    ⟨some 20, .call { callee := .builtin .min, args := #[.tmp 19, .const (.int .i64 15)], argTypes := #[3, 3] }, none⟩,
    ⟨some 21, .slice 22 (.tmp 17) none (some (.tmp 20)) none, none⟩,
    ⟨some 22, .call { callee := .value (.func 21), args := #[.const (.int .i64 3), .tmp 21], argTypes := #[3, 22] }, none⟩,
    ⟨some 7, .alloc 29, none⟩,
    ⟨none, .store 29 (.tmp 7) (.tmp 22), none⟩]) (.seq (.reg [⟨some 23, .move (.tmp 1), none⟩,
    ⟨some 24, .call { callee := .value (.func 26), args := #[.tmp 23, .const (.int .i64 9)], argTypes := #[9, 3] }, none⟩,
    ⟨some 8, .assign (.tmp 24), none⟩]) (.seq (.reg [⟨some 9, .assign (.const (.int .i64 7)), none⟩]) (.seq (.reg [⟨some 10, .assign (.const (.int .i64 9)), none⟩]) (.seq (.seq (.reg [⟨some 25, .move (.tmp 2), none⟩]) (.cond (.tmp 25) (.seq (.reg [⟨some 9, .assign (.const (.int .i64 8)), none⟩]) (.reg [⟨some 10, .assign (.const (.int .i64 10)), none⟩])) .skip)) (.seq (.reg [⟨some 27, .load 29 (.tmp 7), none⟩,
    ⟨some 28, .move (.tmp 9), none⟩,
    ⟨some 29, .move (.tmp 8), none⟩,
    ⟨some 30, .build 34 #[(0, .tmp 28), (1, .const (.string { data := #[107] })), (3, .tmp 29)], none⟩,
    ⟨some 31, .call { callee := .value (.func 24), args := #[.tmp 27, .tmp 30], argTypes := #[29, 34] }, none⟩,
    ⟨some 26, .move (.tmp 31), none⟩,
    ⟨some 32, .extract (.tmp 26) 0, none⟩,
    ⟨some 33, .extract (.tmp 26) 1, none⟩,
    ⟨some 34, .extract (.tmp 26) 2, none⟩,
    ⟨some 11, .alloc 29, none⟩,
    ⟨some 12, .alloc 37, none⟩,
    ⟨none, .store 29 (.tmp 11) (.tmp 32), none⟩,
    ⟨none, .store 37 (.tmp 12) (.tmp 33), none⟩,
    ⟨some 13, .assign (.tmp 34), none⟩]) (.seq (.reg [⟨some 36, .load 29 (.tmp 11), none⟩,
    ⟨some 37, .move (.tmp 10), none⟩,
    ⟨some 38, .build 34 #[(0, .tmp 37), (1, .const (.string { data := #[107] }))], none⟩,
    ⟨some 39, .call { callee := .value (.func 24), args := #[.tmp 36, .tmp 38], argTypes := #[29, 34] }, none⟩,
    ⟨some 35, .move (.tmp 39), none⟩,
    ⟨some 40, .extract (.tmp 35) 0, none⟩,
    ⟨some 41, .extract (.tmp 35) 1, none⟩,
    ⟨some 42, .extract (.tmp 35) 2, none⟩,
    ⟨some 14, .alloc 29, none⟩,
    ⟨some 15, .alloc 37, none⟩,
    ⟨none, .store 29 (.tmp 14) (.tmp 40), none⟩,
    ⟨none, .store 37 (.tmp 15) (.tmp 41), none⟩,
    ⟨some 16, .assign (.tmp 42), none⟩]) (.seq (.reg [⟨some 43, .move (.tmp 13), none⟩,
    ⟨some 44, .binOp .eql 31 (.tmp 43) (.const (.int .i64 0)) 31, none⟩,
    ⟨some 45, .move (.tmp 44), none⟩,
    ⟨some 46, .move (.tmp 16), some (45, true)⟩,
    ⟨some 47, .binOp .eql 31 (.tmp 46) (.const (.int .i64 0)) 31, some (45, true)⟩,
    ⟨some 48, .pick (.tmp 45) (.tmp 47) (.const (.bool false)), none⟩,
    ⟨some 49, .move (.tmp 48), none⟩,
    ⟨some 50, .fieldAddr 37 (.tmp 12) 2, some (49, true)⟩,
    ⟨some 51, .load 3 (.tmp 50), some (49, true)⟩,
    ⟨some 52, .fieldAddr 29 (.tmp 7) 4, some (49, true)⟩,
    ⟨some 53, .load 26 (.tmp 52), some (49, true)⟩,
    ⟨some 54, .call { callee := .builtin .len, args := #[.tmp 53], argTypes := #[26] }, some (49, true)⟩,
    ⟨some 55, .binOp .add 3 (.tmp 54) (.const (.int .i64 1)) 3, some (49, true)⟩,
    ⟨some 56, .binOp .eql 3 (.tmp 51) (.tmp 55) 3, some (49, true)⟩,
    ⟨some 57, .pick (.tmp 49) (.tmp 56) (.const (.bool false)), none⟩,
    ⟨some 58, .move (.tmp 57), none⟩,
    ⟨some 59, .fieldAddr 37 (.tmp 15) 1, some (58, true)⟩,
    ⟨some 60, .load 9 (.tmp 59), some (58, true)⟩,
    ⟨some 61, .move (.tmp 8), some (58, true)⟩,
    ⟨some 62, .binOp .eql 9 (.tmp 60) (.tmp 61) 9, some (58, true)⟩,
    ⟨some 63, .pick (.tmp 58) (.tmp 62) (.const (.bool false)), none⟩,
    ⟨some 64, .move (.tmp 63), none⟩,
    ⟨some 65, .load 29 (.tmp 7), some (64, true)⟩,
    ⟨some 66, .load 29 (.tmp 14), some (64, true)⟩,
    ⟨some 67, .call { callee := .value (.func 25), args := #[.tmp 65, .tmp 66], argTypes := #[29, 29] }, some (64, true)⟩,
    ⟨some 68, .pick (.tmp 64) (.tmp 67) (.const (.bool false)), none⟩,
    ⟨some 69, .move (.tmp 68), none⟩,
    ⟨some 70, .fieldAddr 29 (.tmp 7) 4, some (69, true)⟩,
    ⟨some 71, .load 26 (.tmp 70), some (69, true)⟩,
    ⟨some 72, .call { callee := .builtin .len, args := #[.tmp 71], argTypes := #[26] }, some (69, true)⟩,
    ⟨some 73, .binOp .gtr 3 (.tmp 72) (.const (.int .i64 0)) 3, some (69, true)⟩,
    ⟨some 74, .pick (.tmp 69) (.tmp 73) (.const (.bool false)), none⟩,
    ⟨some 6, .assign (.tmp 74), none⟩]) .ret))))))))
theorem rs_rostrumkeep_EndsMeet : Try.f19.results.toList = [.tmp 6] := rfl
theorem ok_rostrumkeep_EndsMeet : Try.f19.body.bind (comp Try.f19.ntmps) = some ac_rostrumkeep_EndsMeet := by kernel_rfl
theorem do_items (v : Val) (c : Cmd) : (DoV v c).1.items.length ≤ v.items.length + 1 := by
  have key : ∀ w : Val, w.items = v.items → (doV w c).1.items.length ≤ v.items.length + 1 := fun w h => by rw [← h]; exact (doV_len w c).2.1
  have k2 := key (if v.isNone = true then { v with kind := kindOfC c.kind } else v) (by split <;> rfl)
  unfold DoV
  generalize doV (if v.isNone = true then { v with kind := kindOfC c.kind } else v) c = q at *
  repeat' split
  all_goals first
    | exact Nat.zero_le _
    | exact Nat.le_succ _
    | exact k2
theorem fold_items (kind : Int) : ∀ (l : List Raw) (v : Val), (l.foldl (fun v r => stepV v (maker kind r)) v).items.length ≤ v.items.length + l.length
  | [], v => by simp
  | r :: l, v => by
    have h1 := fold_items kind l (stepV v (maker kind r))
    have h2 : (stepV v (maker kind r)).items.length ≤ v.items.length + 1 := by
      unfold stepV
      split
      · exact do_items v _
      · omega
    simp only [List.foldl_cons, List.length_cons]
    omega
def pushC (t : ByteArray) : Cmd := ⟨7, kS, eS, t, 0⟩
def frontC (t : ByteArray) : Cmd := ⟨8, kS, eS, t, 0⟩
def popC : Cmd := ⟨9, kS, eS, eS, 0⟩
def shiftC : Cmd := ⟨10, kS, eS, eS, 0⟩
theorem put_list {v : Val} (ok : OkV v) (h4 : v.kind = 4) {c : Cmd} (hc : checkC c = 0) (hk : c.kind = 7 ∨ c.kind = 8) (hl : v.items.length < 20) {L : List ByteArray} (hL : L = if c.kind = 7 then v.items ++ [c.text] else c.text :: v.items) :
    DoV v c = ({ v with items := L }, toldR (v.items.length + 1), 0) ∧ OkV { v with items := L } := by
  have hd : doV v c = ({ v with items := L }, toldR (v.items.length + 1)) := by
    have : v.items.length ≠ 20 := by omega
    unfold doV listV
    rcases hk with h | h <;> simp [h, h4, this, hL]
  have hLl : L.length = v.items.length + 1 := by
    rw [hL]; split <;> simp
  have e : DoV v c = ({ v with items := L }, toldR (v.items.length + 1), 0) := by
    rw [DoV_go (checkV_iff.2 ok) hc (by omega) (by
      rintro (h | h)
      · refine h.2 ?_
        rw [h4]
        rcases hk with h | h <;> rw [h] <;> rfl
      · omega), hd]
    exact DoEnd_some rfl (fun h => by
      have := h.2
      unfold Val.els at this
      simp only at this
      omega)
  have hvk := (DoV_vk (.inl ok) hc (by omega)).2
  rw [e] at hvk
  exact ⟨e, hvk.there (by show v.kind ≠ 0; omega)⟩
theorem take_list {v w : Val} (ok : OkV v) (h4 : v.kind = 4) (okw : OkV w) {t : ByteArray} {c : Cmd} (hc : checkC c = 0) (h : c.kind = 9 ∧ w = { v with items := v.items ++ [t] } ∨ c.kind = 10 ∧ w = { v with items := t :: v.items }) :
    DoV w c = (v, textR t, 0) := by
  have hd : doV w c = (v, textR t) := by
    unfold doV listV
    rcases h with ⟨h, e⟩ | ⟨h, e⟩ <;> subst e <;> simp [h, h4] <;> (obtain ⟨k', t', n', p', i', s'⟩ := v; simp only at h4; subst h4; rfl)
  have hwk : w.kind = 4 := by rcases h with ⟨h, e⟩ | ⟨h, e⟩ <;> rw [e] <;> exact h4
  rw [DoV_go (checkV_iff.2 okw) hc (by omega) (by
    rintro (h' | h')
    · refine h'.2 ?_
      rw [hwk]
      rcases h with h | h <;> rw [h.1] <;> rfl
    · omega), hd]
  exact DoEnd_some rfl (fun h' => by
    have := h'.2
    have := (ok.els (by omega)).1
    simp only at *
    omega)
theorem endsMeet_c (l : List Raw) (s : ByteArray) (front : Bool) (hl : ∀ r ∈ l, r.Ok) (hn : (l.length : Int) ≤ 9223372036854775807) : PCall Try.prog G 19 [.one (.v (.sl (l.map Raw.row))), sV s, bV front] (bV true) := by
  have hl' : ∀ r ∈ l.take 15, r.Ok := fun r hr => hl r (List.mem_of_mem_take hr)
  have hf := full_c (G := G) 3 (l.take 15) (by unfold i64; omega) hl' (by have := List.length_take_le 15 l; omega)
  obtain ⟨ok, hk⟩ := fullV_ok 3 (l.take 15) hl'
  have hk4 : (fullV 3 (l.take 15)).kind = 4 := by rw [hk]; rfl
  have h16 : (fullV 3 (l.take 15)).items.length ≤ 16 := by
    have := fold_items 3 ((x1 :: l.take 15).take 24) zeroV
    have h2 : ((x1 :: l.take 15).take 24).length ≤ 16 := by
      have := List.length_take_le 24 (x1 :: l.take 15)
      simp; omega
    have h3 : zeroV.items.length = 0 := rfl
    unfold fullV valueV
    omega
  clear hk
  rw [List.map_take] at hf
  generalize fullV 3 (l.take 15) = v at *
  have hcut := cut_c (G := G) s 9 (by omega)
  have ht := cut_ok s (n := 9) (by omega) (by omega)
  generalize cutS s 9 = t at *
  have he := (ok.els (by omega)).1
  have hpos : 0 < v.items.length := by
    unfold Val.els at he
    rw [ok.pairs.resolve_left (by omega), ok.scores.resolve_left (by omega)] at he
    simp at he; omega
  have hs := sameValue_c (G := G) v v ok.small
  have hrows : (l.map Raw.row).length = l.length := List.length_map ..
  have m1 : (if 15 < (l.length : Int) then 15 else (l.length : Int)).toNat = min l.length 15 := by split <;> omega
  have m2 : List.take (min l.length 15) (List.map Raw.row l) = List.take 15 (List.map Raw.row l) := by
    rcases Nat.le_total l.length 15 with h | h
    · rw [Nat.min_eq_left h, List.take_of_length_le (by simp), List.take_of_length_le (by simpa using h)]
    · rw [Nat.min_eq_right h]
  have hul : UL 5 (l.map Raw.row) := fun r hr => by
    obtain ⟨y, _, rfl⟩ := List.mem_map.1 hr
    rfl
  cases front with
  | true =>
    have hc : checkC (frontC t) = 0 := cmd_form (by omega) (by omega) (.inr ⟨by omega, rfl⟩) (.inl ⟨ht, by omega⟩) (.inr rfl)
    have hc2 : checkC shiftC = 0 := cmd_form (by omega) (by omega) (.inr ⟨by omega, rfl⟩) (.inr rfl) (.inr rfl)
    obtain ⟨e1, okw⟩ := put_list (c := frontC t) (L := t :: v.items) ok hk4 hc (.inr rfl) (by omega) rfl
    have e2 := take_list (t := t) (c := shiftC) ok hk4 okw hc2 (.inr ⟨rfl, rfl⟩)
    have d1 := Do_c (G := G) v (frontC t) ok.small
    have d2 := Do_c (G := G) { v with items := t :: v.items } shiftC okw.small
    rw [e1] at d1
    rw [e2] at d2
    obtain ⟨vk, vt, vn, vp, vi, vs⟩ := v
    simp only at hk4 h16 hpos
    have q1 : decide (0 < vi.length) = true := by simpa using hpos
    have w1 : IntKind.i64.wrap ((vi.length : Int) + 1) = (vi.length : Int) + 1 := IntWalk.i64_in _ (by omega)
    simp only [DoA, Val.c, Rep.c, Cmd.c, toldR, textR, frontC, shiftC, decide_true, List.map_nil] at hf d1 d2 hs
    refine pcall mixed Try.func19 ok_rostrumkeep_EndsMeet rs_rostrumkeep_EndsMeet (by simp [Try.f19]) ?_
    unfold ac_rostrumkeep_EndsMeet
    repeat' (first | (with_reducible first | refine Cnd.intro (fun h => ?_) (fun h => ?_) | refine And.intro ?_ ?_ | refine Wk.refl ?_ | exact Weak.refl _ _ | refine weak_auto ?_ | apply awp_join) | ((try with_reducible refine CallZ.l ?_); with_reducible refine qcf (by first | exact hf | exact hcut | exact d1 | exact d2 | exact hs) ?_ ?_) | ((try with_reducible refine CallZ.l ?_); with_reducible refine qcn (by first | exact qkc hf (by with_unfolding_all rfl) | exact qkc hcut (by with_unfolding_all rfl) | exact qkc d1 (by with_unfolding_all rfl) | exact qkc d2 (by with_unfolding_all rfl) | exact qkc hs (by with_unfolding_all rfl)) ?_) | ((with_reducible refine qcz (by first | exact qkz hf (by with_unfolding_all rfl) | exact qkz hcut (by with_unfolding_all rfl) | exact qkz d1 (by with_unfolding_all rfl) | exact qkz d2 (by with_unfolding_all rfl) | exact qkz hs (by with_unfolding_all rfl)) ?_); intro zh1 zq1; (try simp -dsimp [go_sem] at zq1); obtain ⟨rfl⟩ := zq1) | (with_reducible refine CallZ.z ?_) | simp -dsimp [go_sem, q1, w1, m1, m2])
    all_goals first | exact hul | (split <;> omega)
  | false =>
    have hc : checkC (pushC t) = 0 := cmd_form (by omega) (by omega) (.inr ⟨by omega, rfl⟩) (.inl ⟨ht, by omega⟩) (.inr rfl)
    have hc2 : checkC popC = 0 := cmd_form (by omega) (by omega) (.inr ⟨by omega, rfl⟩) (.inr rfl) (.inr rfl)
    obtain ⟨e1, okw⟩ := put_list (c := pushC t) (L := v.items ++ [t]) ok hk4 hc (.inl rfl) (by omega) rfl
    have e2 := take_list (t := t) (c := popC) ok hk4 okw hc2 (.inl ⟨rfl, rfl⟩)
    have d1 := Do_c (G := G) v (pushC t) ok.small
    have d2 := Do_c (G := G) { v with items := v.items ++ [t] } popC okw.small
    rw [e1] at d1
    rw [e2] at d2
    obtain ⟨vk, vt, vn, vp, vi, vs⟩ := v
    simp only at hk4 h16 hpos
    have q1 : decide (0 < vi.length) = true := by simpa using hpos
    have w1 : IntKind.i64.wrap ((vi.length : Int) + 1) = (vi.length : Int) + 1 := IntWalk.i64_in _ (by omega)
    simp only [DoA, Val.c, Rep.c, Cmd.c, toldR, textR, pushC, popC, decide_true, List.map_nil] at hf d1 d2 hs
    simp only [List.map_append, List.map_cons, List.map_nil] at d1 d2
    refine pcall mixed Try.func19 ok_rostrumkeep_EndsMeet rs_rostrumkeep_EndsMeet (by simp [Try.f19]) ?_
    unfold ac_rostrumkeep_EndsMeet
    repeat' (first | (with_reducible first | refine Cnd.intro (fun h => ?_) (fun h => ?_) | refine And.intro ?_ ?_ | refine Wk.refl ?_ | exact Weak.refl _ _ | refine weak_auto ?_ | apply awp_join) | ((try with_reducible refine CallZ.l ?_); with_reducible refine qcf (by first | exact hf | exact hcut | exact d1 | exact d2 | exact hs) ?_ ?_) | ((try with_reducible refine CallZ.l ?_); with_reducible refine qcn (by first | exact qkc hf (by with_unfolding_all rfl) | exact qkc hcut (by with_unfolding_all rfl) | exact qkc d1 (by with_unfolding_all rfl) | exact qkc d2 (by with_unfolding_all rfl) | exact qkc hs (by with_unfolding_all rfl)) ?_) | ((with_reducible refine qcz (by first | exact qkz hf (by with_unfolding_all rfl) | exact qkz hcut (by with_unfolding_all rfl) | exact qkz d1 (by with_unfolding_all rfl) | exact qkz d2 (by with_unfolding_all rfl) | exact qkz hs (by with_unfolding_all rfl)) ?_); intro zh1 zq1; (try simp -dsimp [go_sem] at zq1); obtain ⟨rfl⟩ := zq1) | (with_reducible refine CallZ.z ?_) | simp -dsimp [go_sem, q1, w1, m1, m2])
    all_goals first | exact hul | (split <;> omega)
end Go.Proofs.Ytacdeehkdepiaaa
