/- The function FullTold answers true. -/
import Derived.Test.YtacdeehkdepiaaaL6
set_option linter.unusedVariables false
set_option linter.unusedSimpArgs false
set_option maxRecDepth 100000
set_option maxHeartbeats 8000000
namespace Go.Proofs.Ytacdeehkdepiaaa
open Go Go.RowKit Go.Proofs.AE
variable {G : Nat → AV}
def ac_rostrumkeep_FullTold : ACode := .seq (.reg [⟨some 4, .assign (.const (.bool false)), none⟩]) (.seq (.reg [⟨some 17, .move (.tmp 0), none⟩,
    ⟨some 18, .call { callee := .value (.func 28), args := #[.tmp 17, .const (.int .i64 4)], argTypes := #[3, 3] }, none⟩,
    ⟨some 19, .binOp .add 3 (.const (.int .i64 2)) (.tmp 18) 3, none⟩,
    ⟨some 5, .assign (.tmp 19), none⟩]) (.seq (.reg [⟨some 6, .alloc 29, none⟩]) (.seq (.reg [⟨some 20, .move (.tmp 1), none⟩,
    ⟨some 21, .call { callee := .value (.func 28), args := #[.tmp 20, .const (.int .i64 40)], argTypes := #[3, 3] }, none⟩,
    ⟨some 7, .assign (.tmp 21), none⟩]) (.seq (.seq (.reg [⟨some 8, .assign (.const (.int .i64 0)), none⟩]) (.block 0 (.loop (.seq (.seq (.reg [⟨some 22, .move (.tmp 8), none⟩,
    ⟨some 23, .move (.tmp 7), none⟩,
    ⟨some 24, .binOp .lss 3 (.tmp 22) (.tmp 23) 3, none⟩]) (.cond (.tmp 24) .skip (.exit 0))) (.seq (.block 1 (.seq (.reg [⟨some 27, .move (.tmp 8), none⟩,
    ⟨some 28, .binOp .rem 3 (.tmp 27) (.const (.int .i64 26)) 3, none⟩,
    ⟨some 29, .binOp .add 3 (.const (.int .i64 97)) (.tmp 28) 3, none⟩,
    ⟨some 30, .convert 3 5 (.tmp 29), none⟩,
    ⟨some 31, .move (.tmp 8), none⟩,
    ⟨some 32, .binOp .quo 3 (.tmp 31) (.const (.int .i64 26)) 3, none⟩,
    ⟨some 33, .binOp .add 3 (.const (.int .i64 97)) (.tmp 32) 3, none⟩,
    ⟨some 34, .convert 3 5 (.tmp 33), none⟩,
    ⟨some 35, .buildSlice 60 2 #[(0, .tmp 30), (1, .tmp 34)], none⟩,
    ⟨some 36, .convert 60 9 (.tmp 35), none⟩,
    ⟨some 9, .assign (.tmp 36), none⟩]) (.seq (.reg [⟨some 37, .move (.tmp 5), none⟩,
    ⟨some 38, .build 24 #[], none⟩,
    ⟨some 39, .call { callee := .value (.func 32), args := #[.tmp 37, .tmp 38], argTypes := #[3, 24] }, none⟩,
    ⟨some 10, .alloc 34, none⟩,
    ⟨none, .store 34 (.tmp 10) (.tmp 39), none⟩]) (.seq (.reg [⟨some 40, .move (.tmp 9), none⟩,
    ⟨some 41, .fieldAddr 34 (.tmp 10) 3, none⟩,
    ⟨none, .store 9 (.tmp 41) (.tmp 40), none⟩]) (.seq (.seq (.reg [⟨some 42, .fieldAddr 34 (.tmp 10) 0, none⟩,
    ⟨some 43, .load 3 (.tmp 42), none⟩,
    ⟨some 44, .binOp .eql 3 (.tmp 43) (.const (.int .i64 4)) 3, none⟩]) (.cond (.tmp 44) (.reg [⟨some 45, .move (.tmp 9), none⟩,
    ⟨some 46, .fieldAddr 34 (.tmp 10) 2, none⟩,
    ⟨none, .store 9 (.tmp 46) (.tmp 45), none⟩]) .skip)) (.seq (.reg [⟨some 48, .load 29 (.tmp 6), none⟩,
    ⟨some 49, .load 34 (.tmp 10), none⟩,
    ⟨some 50, .call { callee := .value (.func 24), args := #[.tmp 48, .tmp 49], argTypes := #[29, 34] }, none⟩,
    ⟨some 47, .move (.tmp 50), none⟩,
    ⟨some 51, .extract (.tmp 47) 0, none⟩,
    ⟨some 52, .extract (.tmp 47) 1, none⟩,
    ⟨some 53, .extract (.tmp 47) 2, none⟩,
    ⟨some 11, .alloc 29, none⟩,
    ⟨some 12, .alloc 37, none⟩,
    ⟨none, .store 29 (.tmp 11) (.tmp 51), none⟩,
    ⟨none, .store 37 (.tmp 12) (.tmp 52), none⟩,
    ⟨some 13, .assign (.tmp 53), none⟩]) (.seq (.seq (.reg [⟨some 54, .move (.tmp 13), none⟩,
    ⟨some 55, .binOp .neq 31 (.tmp 54) (.const (.int .i64 0)) 31, none⟩,
    ⟨some 56, .move (.tmp 55), none⟩,
    ⟨some 57, .fieldAddr 37 (.tmp 12) 0, some (56, false)⟩,
    ⟨some 58, .load 31 (.tmp 57), some (56, false)⟩,
    ⟨some 59, .binOp .eql 31 (.tmp 58) (.const (.int .i64 6)) 31, some (56, false)⟩,
    ⟨some 60, .move (.tmp 8), some (56, false)⟩,
    ⟨some 61, .binOp .geq 3 (.tmp 60) (.const (.int .i64 20)) 3, some (56, false)⟩,
    ⟨some 62, .binOp .neq 4 (.tmp 59) (.tmp 61) 4, some (56, false)⟩,
    ⟨some 63, .pick (.tmp 56) (.const (.bool true)) (.tmp 62), none⟩]) (.cond (.tmp 63) (.seq (.reg [⟨some 4, .assign (.const (.bool false)), none⟩]) .ret) .skip)) (.reg [⟨some 64, .load 29 (.tmp 11), none⟩,
    ⟨none, .store 29 (.tmp 6) (.tmp 64), none⟩])))))))) (.reg [⟨some 25, .move (.tmp 8), none⟩,
    ⟨some 26, .binOp .add 3 (.tmp 25) (.const (.int .i64 1)) 3, none⟩,
    ⟨some 8, .assign (.tmp 26), none⟩])))))) (.seq (.reg [⟨some 66, .load 29 (.tmp 6), none⟩,
    ⟨some 67, .build 34 #[(0, .const (.int .i64 17)), (1, .const (.string { data := #[107] }))], none⟩,
    ⟨some 68, .call { callee := .value (.func 24), args := #[.tmp 66, .tmp 67], argTypes := #[29, 34] }, none⟩,
    ⟨some 65, .move (.tmp 68), none⟩,
    ⟨some 69, .extract (.tmp 65) 0, none⟩,
    ⟨some 70, .extract (.tmp 65) 1, none⟩,
    ⟨some 71, .extract (.tmp 65) 2, none⟩,
    ⟨some 14, .alloc 29, none⟩,
    ⟨some 15, .alloc 37, none⟩,
    ⟨none, .store 29 (.tmp 14) (.tmp 69), none⟩,
    ⟨none, .store 37 (.tmp 15) (.tmp 70), none⟩,
    ⟨some 16, .assign (.tmp 71), none⟩]) (.seq (.seq (.reg [⟨some 72, .move (.tmp 7), none⟩,
    ⟨some 73, .binOp .eql 3 (.tmp 72) (.const (.int .i64 0)) 3, none⟩]) (.cond (.tmp 73) (.seq (.reg [⟨some 74, .move (.tmp 16), none⟩,
    ⟨some 75, .binOp .eql 31 (.tmp 74) (.const (.int .i64 0)) 31, none⟩,
    ⟨some 76, .move (.tmp 75), none⟩,
    ⟨some 77, .fieldAddr 37 (.tmp 15) 0, some (76, true)⟩,
    ⟨some 78, .load 31 (.tmp 77), some (76, true)⟩,
    ⟨some 79, .binOp .eql 31 (.tmp 78) (.const (.int .i64 5)) 31, some (76, true)⟩,
    ⟨some 80, .pick (.tmp 76) (.tmp 79) (.const (.bool false)), none⟩,
    ⟨some 81, .move (.tmp 80), none⟩,
    ⟨some 82, .fieldAddr 29 (.tmp 14) 0, some (81, true)⟩,
    ⟨some 83, .load 3 (.tmp 82), some (81, true)⟩,
    ⟨some 84, .binOp .eql 3 (.tmp 83) (.const (.int .i64 0)) 3, some (81, true)⟩,
    ⟨some 85, .pick (.tmp 81) (.tmp 84) (.const (.bool false)), none⟩,
    ⟨some 4, .assign (.tmp 85), none⟩]) .ret) .skip)) (.seq (.reg [⟨some 86, .move (.tmp 16), none⟩,
    ⟨some 87, .binOp .eql 31 (.tmp 86) (.const (.int .i64 0)) 31, none⟩,
    ⟨some 88, .move (.tmp 87), none⟩,
    ⟨some 89, .fieldAddr 37 (.tmp 15) 2, some (88, true)⟩,
    ⟨some 90, .load 3 (.tmp 89), some (88, true)⟩,
    ⟨some 91, .move (.tmp 7), some (88, true)⟩,
    ⟨some 92, .call { callee := .builtin .min, args := #[.tmp 91, .const (.int .i64 20)], argTypes := #[3, 3] }, some (88, true)⟩,
    ⟨some 93, .binOp .eql 3 (.tmp 90) (.tmp 92) 3, some (88, true)⟩,
    ⟨some 94, .pick (.tmp 88) (.tmp 93) (.const (.bool false)), none⟩,
    ⟨some 4, .assign (.tmp 94), none⟩]) .ret)))))))
theorem rs_rostrumkeep_FullTold : Try.f13.results.toList = [.tmp 4] := rfl
theorem ok_rostrumkeep_FullTold : Try.f13.body.bind (comp Try.f13.ntmps) = some ac_rostrumkeep_FullTold := by kernel_rfl
abbrev aS : ByteArray := ⟨#[97]⟩
def tS (i : Nat) : ByteArray := ⟨#[UInt8.ofNat (97 + i % 26), UInt8.ofNat (97 + i / 26)]⟩
theorem tS_inj : ∀ i j : Nat, i < 40 → j < 40 → tS i = tS j → i = j := by
  have h : ∀ i j : Fin 40, tS i.1 = tS j.1 → i = j := by decide +kernel
  intro i j hi hj e
  have := h ⟨i, hi⟩ ⟨j, hj⟩ e
  exact congrArg Fin.val this
def fullC (k : Int) (i : Nat) : Cmd := ⟨k, aS, if k = 4 then tS i else eS, tS i, if k = 14 then -6 else 0⟩
theorem fullC_ok {k : Int} (hk : k = 4 ∨ k = 7 ∨ k = 11 ∨ k = 14) (i : Nat) : checkC (fullC k i) = 0 := by
  have h1 : okField (tS i) = true := rfl
  have h2 : okText (tS i) = true := rfl
  have h3 : okField aS = true := rfl
  have h4 : okText eS = true := rfl
  unfold checkC fullC checkCommand formOk
  simp only
  rcases hk with h | h | h | h <;> subst h <;> simp [h1, h2, h3, h4, okCount]
/-- What is not there yet. -/
theorem new_one {v : Val} {c : Cmd} {t : ByteArray} (hk : c.kind = 4 ∧ c.field = t ∨ (c.kind = 7 ∨ c.kind = 11 ∨ c.kind = 14) ∧ c.text = t) (hv : v.kind = kindOfC c.kind)
    (hp : v.kind = 3 ∨ v.pairs = []) (hi : v.kind = 4 ∨ v.kind = 5 ∨ v.items = []) (hs : v.scores = [] ∨ v.kind = 6) (hnew : t ∉ allV v) :
    (v.els = 20 → (doV v c).2 = failR 6) ∧ (v.els < 20 → (doV v c).2.code = 0 ∧ (doV v c).1.els = v.els + 1 ∧ ∀ x ∈ allV (doV v c).1, x ∈ allV v ∨ x = t) := by
  have hnew' : t ∉ v.items ∧ t ∉ v.pairs.map (·.1) ∧ t ∉ v.scores.map (·.1) := by
    unfold allV at hnew
    simp only [List.mem_append, not_or] at hnew
    exact ⟨hnew.1.1, hnew.1.2, hnew.2⟩
  rcases hk with ⟨h, ht⟩ | ⟨h | h | h, ht⟩
  · have hv3 : v.kind = 3 := by rw [hv, h]; rfl
    have e1 := (hi.resolve_left (by omega)).resolve_left (by omega)
    have e2 := hs.resolve_right (by omega)
    have hno : hashIn v.pairs c.field = false := by
      rw [ht]
      cases hh : hashIn v.pairs t with
      | false => rfl
      | true =>
        exfalso
        unfold hashIn at_api_Pair at hh
        split at hh
        · rename_i a ha
          have : a.1 = t := by simpa [bF, cmpB_zero] using hh
          exact hnew'.2.1 (List.mem_map.2 ⟨a, List.mem_of_getElem? ha, this⟩)
        · cases hh
    have hd : doV v c = if v.pairs.length = 20 then (v, failR 6) else ({ v with pairs := insAt v.pairs (hashAt v.pairs c.field) (c.field, c.text) }, toldR 1) := by
      unfold doV hashV
      simp only [h, hv3, hno]
      simp
      split <;> first | (simp; done) | (obtain ⟨k', t', n', p', i', s'⟩ := v; simp only at hv3; subst hv3; rfl)
    have hle := plc_le (fun p : Pr => decide (cmpB p.1 c.field < 0)) v.pairs
    rw [hd]
    unfold Val.els
    rw [e1, e2]
    constructor
    · intro h20
      rw [if_pos (by simp at h20; omega)]
    · intro h20
      rw [if_neg (by simp at h20; omega)]
      refine ⟨rfl, ?_, ?_⟩
      · simp [insAt, hashAt]; omega
      · intro x hx
        unfold allV at hx ⊢
        simp only [e1, e2, List.map_nil, List.append_nil, List.nil_append, List.mem_map] at hx ⊢
        obtain ⟨a, ha, rfl⟩ := hx
        unfold insAt at ha
        rcases List.mem_append.1 ha with ha | ha
        · exact .inl ⟨a, List.mem_of_mem_take ha, rfl⟩
        · rcases List.mem_cons.1 ha with ha | ha
          · right; rw [ha]; exact ht
          · exact .inl ⟨a, List.mem_of_mem_drop ha, rfl⟩
  · have hv3 : v.kind = 4 := by rw [hv, h]; rfl
    have e1 := hp.resolve_left (by omega)
    have e2 := hs.resolve_right (by omega)
    have hd : doV v c = if v.items.length = 20 then (v, failR 6) else ({ v with items := v.items ++ [c.text] }, toldR (v.items.length + 1)) := by
      unfold doV listV
      simp only [h, hv3]
      simp
      split <;> first | (simp; done) | (obtain ⟨k', t', n', p', i', s'⟩ := v; simp only at hv3; subst hv3; rfl)
    rw [hd]
    unfold Val.els
    rw [e1, e2]
    constructor
    · intro h20
      rw [if_pos (by simp at h20; omega)]
    · intro h20
      rw [if_neg (by simp at h20; omega)]
      refine ⟨rfl, (by simp <;> omega), ?_⟩
      intro x hx
      unfold allV at hx ⊢
      simp only [e1, e2, List.map_nil, List.append_nil, List.mem_append, List.mem_singleton] at hx ⊢
      rw [← ht]; exact hx
  · have hv3 : v.kind = 5 := by rw [hv, h]; rfl
    have e1 := hp.resolve_left (by omega)
    have e2 := hs.resolve_right (by omega)
    have hno : setIn v.items c.text = false := by
      rw [ht]
      cases hh : setIn v.items t with
      | false => rfl
      | true =>
        exfalso
        unfold setIn at_string at hh
        split at hh
        · rename_i a ha
          have : a = t := by simpa using hh
          exact hnew'.1 (this ▸ List.mem_of_getElem? ha)
        · cases hh
    have hd : doV v c = if v.items.length = 20 then (v, failR 6) else ({ v with items := insAt v.items (setAt v.items c.text) c.text }, toldR 1) := by
      unfold doV setV
      simp only [h, hv3, hno]
      simp
      split <;> first | (simp; done) | (obtain ⟨k', t', n', p', i', s'⟩ := v; simp only at hv3; subst hv3; rfl)
    have hle := plc_le (fun a => lessB a c.text) v.items
    rw [hd]
    unfold Val.els
    rw [e1, e2]
    constructor
    · intro h20
      rw [if_pos (by simp at h20; omega)]
    · intro h20
      rw [if_neg (by simp at h20; omega)]
      refine ⟨rfl, ?_, ?_⟩
      · simp [insAt, setAt]; omega
      · intro x hx
        unfold allV at hx ⊢
        simp only [e1, e2, List.map_nil, List.append_nil] at hx ⊢
        unfold insAt at hx
        rcases List.mem_append.1 hx with ha | ha
        · exact .inl (List.mem_of_mem_take ha)
        · rcases List.mem_cons.1 ha with ha | ha
          · right; rw [ha]; exact ht
          · exact .inl (List.mem_of_mem_drop ha)
  · have hv3 : v.kind = 6 := by rw [hv, h]; rfl
    have e1 := hp.resolve_left (by omega)
    have e2 := (hi.resolve_left (by omega)).resolve_left (by omega)
    have hno : rankOf v.scores c.text < 0 := by
      rw [ht, rankOf_neg]
      intro s hs e
      exact hnew'.2.2 (List.mem_map.2 ⟨s, hs, e⟩)
    have hcut : rankCut v.scores c.text = v.scores := by unfold rankCut; rw [if_pos hno]
    have hd : doV v c = if v.scores.length = 20 then (v, failR 6) else ({ v with scores := insAt v.scores (rankAt v.scores c.text c.n) (c.text, c.n) }, toldR 1) := by
      unfold doV ranksV
      simp only [h, hv3, hcut, hno]
      simp
      split <;> first | (simp; done) | (obtain ⟨k', t', n', p', i', s'⟩ := v; simp only at hv3; subst hv3; rfl)
    have hle := plc_le (fun a : Sc => decide (bS a (c.text, c.n) < 0)) v.scores
    rw [hd]
    unfold Val.els
    rw [e1, e2]
    constructor
    · intro h20
      rw [if_pos (by simp at h20; omega)]
    · intro h20
      rw [if_neg (by simp at h20; omega)]
      refine ⟨rfl, ?_, ?_⟩
      · simp [insAt, rankAt]; omega
      · intro x hx
        unfold allV at hx ⊢
        simp only [e1, e2, List.map_nil, List.append_nil, List.nil_append, List.mem_map] at hx ⊢
        obtain ⟨a, ha, rfl⟩ := hx
        unfold insAt at ha
        rcases List.mem_append.1 ha with ha | ha
        · exact .inl ⟨a, List.mem_of_mem_take ha, rfl⟩
        · rcases List.mem_cons.1 ha with ha | ha
          · right; rw [ha]; exact ht
          · exact .inl ⟨a, List.mem_of_mem_drop ha, rfl⟩
structure FInv (k : Int) (i : Nat) (v : Val) : Prop where
  ok : OkV v
  kind : v.kind = kindOfC k
  els : v.els = if i < 20 then (i : Int) else 20
  new : ∀ j, i ≤ j → j < 40 → tS j ∉ allV v
theorem full_first {k : Int} (hk : k = 4 ∨ k = 7 ∨ k = 11 ∨ k = 14) : ∃ w r, DoV zeroV (fullC k 0) = (w, r, 0) ∧ r.code = 0 ∧ FInv k 1 w := by
  have hc := fullC_ok hk 0
  have hm : makesC (fullC k 0).kind = true := by rcases hk with h | h | h | h <;> subst h <;> rfl
  have hk3 : 3 ≤ kindOfC k := by rcases hk with h | h | h | h <;> subst h <;> decide
  obtain ⟨n1, n2⟩ := new_one (v := ⟨kindOfC k, ⟨#[]⟩, 0, [], [], []⟩) (c := fullC k 0) (t := tS 0) (by
    rcases hk with h | h | h | h <;> subst h
    · exact .inl ⟨rfl, rfl⟩
    · exact .inr ⟨.inl rfl, rfl⟩
    · exact .inr ⟨.inr (.inl rfl), rfl⟩
    · exact .inr ⟨.inr (.inr rfl), rfl⟩) rfl (.inr rfl) (.inr (.inr rfl)) (.inl rfl) (by simp [allV])
  obtain ⟨g1, g2, g3⟩ := n2 (by simp [Val.els])
  have hkd := doV_kind (v := ⟨kindOfC k, ⟨#[]⟩, 0, [], [], []⟩) (c := fullC k 0) (by show 4 ≤ k; omega)
  have e : DoV zeroV (fullC k 0) = ((doV ⟨kindOfC k, ⟨#[]⟩, 0, [], [], []⟩ (fullC k 0)).1, (doV ⟨kindOfC k, ⟨#[]⟩, 0, [], [], []⟩ (fullC k 0)).2, 0) := by
    rw [DoV_zero hc (by show k ≤ 18; omega), if_pos hm]
    exact DoEnd_some g1 (fun h => by
      have := h.2
      rw [show (fullC k 0).kind = k from rfl] at this
      rw [g2] at this
      simp [Val.els] at this)
  have hvk := (DoV_vk (.inr rfl) hc (by show k ≤ 18; omega)).2
  rw [e] at hvk
  refine ⟨_, _, e, g1, hvk.there (by rw [hkd]; show kindOfC k ≠ 0; omega), by rw [hkd], by rw [g2]; simp [Val.els], ?_⟩
  intro j hj hj2 hm
  rcases g3 _ hm with h | h
  · simp [allV] at h
  · have := tS_inj j 0 hj2 (by omega) h; omega
theorem full_next {k : Int} (hk : k = 4 ∨ k = 7 ∨ k = 11 ∨ k = 14) {i : Nat} (hi : i < 40) {v : Val} (h : FInv k i v) : ∃ w r, DoV v (fullC k i) = (w, r, 0) ∧ (r.code = 6 ↔ 20 ≤ i) ∧ FInv k (i + 1) w := by
  have hc := fullC_ok hk i
  have hk3 : 3 ≤ kindOfC k := by rcases hk with h | h | h | h <;> subst h <;> decide
  obtain ⟨n1, n2⟩ := new_one (v := v) (c := fullC k i) (t := tS i) (by
    rcases hk with h | h | h | h <;> subst h
    · exact .inl ⟨rfl, rfl⟩
    · exact .inr ⟨.inl rfl, rfl⟩
    · exact .inr ⟨.inr (.inl rfl), rfl⟩
    · exact .inr ⟨.inr (.inr rfl), rfl⟩) h.kind h.ok.pairs h.ok.items (h.ok.scores.symm) (h.new i (Nat.le_refl _) hi)
  have hkd := doV_kind (v := v) (c := fullC k i) (by show 4 ≤ k; omega)
  have eg := DoV_go (checkV_iff.2 h.ok) hc (by show k ≤ 18; omega) (by
    rintro (h' | h')
    · exact h'.2 h.kind.symm
    · have := h'.1; simp only [fullC] at this; omega)
  have hels := h.els
  by_cases h20 : i < 20
  · rw [if_pos h20] at hels
    obtain ⟨g1, g2, g3⟩ := n2 (by omega)
    have e : DoV v (fullC k i) = ((doV v (fullC k i)).1, (doV v (fullC k i)).2, 0) := by
      rw [eg]
      exact DoEnd_some g1 (fun h => by have := h.2; omega)
    have hvk := (DoV_vk (.inl h.ok) hc (by show k ≤ 18; omega)).2
    rw [e] at hvk
    refine ⟨_, _, e, ⟨fun h6 => (by rw [g1] at h6; cases h6), fun h => by omega⟩, hvk.there (by rw [hkd, h.kind]; omega), by rw [hkd]; exact h.kind, ?_, ?_⟩
    · rw [g2, hels]; split <;> omega
    · intro j hj hj2 hm
      rcases g3 _ hm with h' | h'
      · exact h.new j (by omega) hj2 h'
      · have := tS_inj j i hj2 hi h'; omega
  · rw [if_neg h20] at hels
    have g := n1 hels
    have e : DoV v (fullC k i) = (v, failR 6, 0) := by
      rw [eg, DoEnd_fail (by rw [g]; simp [failR]), g]
    refine ⟨v, failR 6, e, ⟨fun _ => by omega, fun _ => rfl⟩, h.ok, h.kind, by rw [hels, if_neg (by omega)], fun j hj => h.new j (by omega)⟩
def vF (k : Int) : Nat → Val
  | 0 => zeroV
  | i + 1 => (DoV (vF k i) (fullC k i)).1
theorem vF_inv {k : Int} (hk : k = 4 ∨ k = 7 ∨ k = 11 ∨ k = 14) : ∀ i, i ≤ 40 → 0 < i → FInv k i (vF k i)
  | 0, _, h => absurd h (by omega)
  | 1, _, _ => by
    obtain ⟨w, r, e, _, h⟩ := full_first hk
    show FInv k 1 (DoV zeroV (fullC k 0)).1
    rw [e]; exact h
  | i + 2, h, _ => by
    obtain ⟨w, r, e, _, h⟩ := full_next hk (by omega) (vF_inv hk (i + 1) (by omega) (by omega))
    show FInv k (i + 2) (DoV (vF k (i + 1)) (fullC k (i + 1))).1
    rw [e]; exact h
theorem vF_step {k : Int} (hk : k = 4 ∨ k = 7 ∨ k = 11 ∨ k = 14) {i : Nat} (hi : i < 40) : ∃ r, DoV (vF k i) (fullC k i) = (vF k (i + 1), r, 0) ∧ (r.code == 6) = decide ((20 : Int) ≤ i) ∧ (vF k i).Small := by
  by_cases h0 : i = 0
  · subst h0
    obtain ⟨w, r, e, h, _⟩ := full_first hk
    refine ⟨r, ?_, by rw [h]; rfl, zeroV_small⟩
    show DoV zeroV (fullC k 0) = ((DoV zeroV (fullC k 0)).1, r, 0)
    rw [e]
  · have hv := vF_inv hk i (by omega) (by omega)
    obtain ⟨w, r, e, h, _⟩ := full_next hk hi hv
    refine ⟨r, ?_, ?_, hv.ok.small⟩
    · show DoV (vF k i) (fullC k i) = ((DoV (vF k i) (fullC k i)).1, r, 0)
      rw [e]
    · rw [Bool.eq_iff_iff]; simp [h]; omega
def r0 : Raw := ⟨0, 0, 0, 0, ⟨#[]⟩⟩
theorem r0_ok : r0.Ok := ⟨by unfold i64; decide, by unfold i64; decide, by unfold i64; decide, by unfold i64; decide⟩
theorem fullTold_c (kind n : Int) (hk : i64 kind) (hn : i64 n) : PCall Try.prog G 13 [iV kind, iV n] (bV true) := by
  have hp := pk_range (n := kind) (m := 4) (by omega)
  have hpk := picked_c (G := G) kind 4 hk (by omega)
  have hp2 := pk_range (n := n) (m := 40) (by omega)
  have hpk2 := picked_c (G := G) n 40 hn (by omega)
  have w1 : IntKind.i64.wrap (2 + pk kind 4) = 2 + pk kind 4 := IntWalk.i64_in _ (by omega)
  have hmk := maker_c (G := G) (2 + pk kind 4) r0 (by unfold i64; omega) r0_ok
  obtain ⟨M, hM⟩ : ∃ M : Nat, pk n 40 = M := ⟨(pk n 40).toNat, by omega⟩
  rw [hM] at hpk2 hp2
  have q : pk kind 4 = 0 ∨ pk kind 4 = 1 ∨ pk kind 4 = 2 ∨ pk kind 4 = 3 := by omega
  have key0 : pk kind 4 = 0 → PCall Try.prog G 13 [iV kind, iV n] (bV true) := by
    intro hq
    rw [hq] at hpk w1 hmk
    have hmm : maker (2 + 0) r0 = ⟨4, aS, if (4 : Int) = 4 then aS else eS, aS, if (4 : Int) = 14 then -6 else 0⟩ := by rfl
    rw [hmm] at hmk
    have hk4 : (4 : Int) = 4 ∨ (4 : Int) = 7 ∨ (4 : Int) = 11 ∨ (4 : Int) = 14 := by decide
    simp only [Cmd.c, r0] at hmk
    simp (config := { decide := true }) only [if_true, if_false, Int.reduceAdd] at hmk
    have w9 : IntKind.i64.wrap 2 = 2 := rfl
    refine pcall mixed Try.func13 ok_rostrumkeep_FullTold rs_rostrumkeep_FullTold (by simp [Try.f13]) ?_
    unfold ac_rostrumkeep_FullTold
    repeat' (first | (with_reducible first | refine Cnd.intro (fun h => ?_) (fun h => ?_) | refine And.intro ?_ ?_ | refine Wk.refl ?_ | exact Weak.refl _ _ | refine weak_auto ?_ | apply awp_join) | ((try with_reducible refine CallZ.l ?_); with_reducible refine qcf (by first | exact hpk | exact hpk2) ?_ ?_) | ((try with_reducible refine CallZ.l ?_); with_reducible refine qcn (by first | exact qkc hpk (by with_unfolding_all rfl) | exact qkc hpk2 (by with_unfolding_all rfl)) ?_) | ((with_reducible refine qcz (by first | exact qkz hpk (by with_unfolding_all rfl) | exact qkz hpk2 (by with_unfolding_all rfl)) ?_); intro zh1 zq1; (try simp -dsimp [go_sem] at zq1); obtain ⟨rfl⟩ := zq1) | (with_reducible refine CallZ.z ?_) | simp -dsimp [go_sem, w1, w9])
    refine awp_loop (fun i : Nat => ⟨[(5, iV (2 + 0)), (6, .one (.ptr 0 0)), (7, iV M), (8, iV i)], G, [some (.box 29 (vF 4 i).c)]⟩) (fun i => i ≤ M) (fun i => M - i) 0 (weak_auto ?_) (Nat.zero_le _) ?_
    · simp -dsimp [go_sem, vF, zeroV, Val.c]
    · intro i hi
      by_cases hlt : i < M
      · have q1 : decide (i < M) = true := by simpa using hlt
        have e4 : IntKind.i64.wrap ((i : Int) + 1) = (i : Int) + 1 := IntWalk.i64_in _ (by omega)
        obtain ⟨r, hd, hr, hsm⟩ := vF_step hk4 (i := i) (by omega)
        have hdo := Do_c (G := G) (vF 4 i) (fullC 4 i) hsm
        rw [hd] at hdo
        have t1 : IntKind.i64.wrap ((i : Int) / 26) = (i : Int) / 26 := IntWalk.i64_in _ (by omega)
        have t2 : IntKind.i64.wrap ((i : Int) % 26) = (i : Int) % 26 := IntWalk.i64_in _ (by omega)
        have t3 : IntKind.i64.wrap (97 + (i : Int) % 26) = 97 + (i : Int) % 26 := IntWalk.i64_in _ (by omega)
        have t4 : IntKind.i64.wrap (97 + (i : Int) / 26) = 97 + (i : Int) / 26 := IntWalk.i64_in _ (by omega)
        have t5 : IntKind.u8.wrap (97 + (i : Int) % 26) = 97 + (i : Int) % 26 := IntWalk.u8_in _ (by omega)
        have t6 : IntKind.u8.wrap (97 + (i : Int) / 26) = 97 + (i : Int) / 26 := IntWalk.u8_in _ (by omega)
        have t7 : (97 + (i : Int) % 26).toNat = 97 + i % 26 := by omega
        have t8 : (97 + (i : Int) / 26).toNat = 97 + i / 26 := by omega
        have t0 : (i : Int).tmod 26 = (i : Int) % 26 := Int.tmod_eq_emod_of_nonneg (by omega)
        have t9 : UInt8.ofNat (97 + i % 26) = 97 + UInt8.ofNat (i % 26) := by simp
        have t10 : UInt8.ofNat (97 + i / 26) = 97 + UInt8.ofNat (i / 26) := by simp
        generalize vF 4 i = v at *
        generalize hw : vF 4 (i + 1) = w at *
        obtain ⟨vk, vt, vn, vp, vi, vs⟩ := v
        simp only [DoA, Val.c, Rep.c, Cmd.c, fullC, tS] at hdo ⊢
        simp (config := { decide := true }) only [if_true, if_false, t9, t10] at hdo
        repeat' (first | (with_reducible first | refine Cnd.intro (fun h => ?_) (fun h => ?_) | refine And.intro ?_ ?_ | refine Wk.refl ?_ | exact Weak.refl _ _ | refine weak_auto ?_ | apply awp_join) | ((try with_reducible refine CallZ.l ?_); with_reducible refine qcf (by first | exact hmk | exact hdo) ?_ ?_) | ((try with_reducible refine CallZ.l ?_); with_reducible refine qcn (by first | exact qkc hmk (by with_unfolding_all rfl) | exact qkc hdo (by with_unfolding_all rfl)) ?_) | ((with_reducible refine qcz (by first | exact qkz hmk (by with_unfolding_all rfl) | exact qkz hdo (by with_unfolding_all rfl)) ?_); intro zh1 zq1; (try simp -dsimp [go_sem] at zq1); obtain ⟨rfl⟩ := zq1) | (with_reducible refine CallZ.z ?_) | simp -dsimp [go_sem, q1, e4, t0, t1, t2, t3, t4, t5, t6, t7, t8, bytesOf, AE.byteOf, hr, Int.toNat_natCast])
        all_goals first
          | omega
          | (refine Again.auto (i + 1) ?_ hlt ?_
             · simp -dsimp [go_sem, hw, Val.c]
             · show M - (i + 1) < M - i; omega)
      · have q1 : decide (i < M) = false := by simpa using hlt
        obtain rfl : i = M := by omega
        by_cases h0 : i = 0
        · subst h0
          have d := Do_c (G := G) zeroV lenC zeroV_small
          rw [DoV_zero lenC_ok (by show (17 : Int) ≤ 18; omega), if_neg (by decide)] at d
          simp only [DoA, Val.c, Rep.c, Cmd.c, lenC, failR, zeroV, List.map_nil, vF] at d ⊢
          repeat' (first | (with_reducible first | refine Cnd.intro (fun h => ?_) (fun h => ?_) | refine And.intro ?_ ?_ | refine Wk.refl ?_ | exact Weak.refl _ _ | refine weak_auto ?_ | apply awp_join) | ((try with_reducible refine CallZ.l ?_); with_reducible refine qcf (by first | exact d) ?_ ?_) | ((try with_reducible refine CallZ.l ?_); with_reducible refine qcn (by first | exact qkc d (by with_unfolding_all rfl)) ?_) | ((with_reducible refine qcz (by first | exact qkz d (by with_unfolding_all rfl)) ?_); intro zh1 zq1; (try simp -dsimp [go_sem] at zq1); obtain ⟨rfl⟩ := zq1) | (with_reducible refine CallZ.z ?_) | simp -dsimp [go_sem, q1])
        · have hv := vF_inv hk4 i (by omega) (by omega)
          have d := Do_c (G := G) (vF 4 i) lenC hv.ok.small
          rw [len_done hv.ok (by rw [hv.kind]; decide), hv.els] at d
          have q2 : ((i : Int) == 0) = false := by simp; omega
          generalize vF 4 i = v at *
          simp only [DoA, Val.c, Rep.c, Cmd.c, lenC, toldR, List.map_nil] at d ⊢
          by_cases h20 : i < 20
          · rw [if_pos h20] at d
            repeat' (first | (with_reducible first | refine Cnd.intro (fun h => ?_) (fun h => ?_) | refine And.intro ?_ ?_ | refine Wk.refl ?_ | exact Weak.refl _ _ | refine weak_auto ?_ | apply awp_join) | ((try with_reducible refine CallZ.l ?_); with_reducible refine qcf (by first | exact d) ?_ ?_) | ((try with_reducible refine CallZ.l ?_); with_reducible refine qcn (by first | exact qkc d (by with_unfolding_all rfl)) ?_) | ((with_reducible refine qcz (by first | exact qkz d (by with_unfolding_all rfl)) ?_); intro zh1 zq1; (try simp -dsimp [go_sem] at zq1); obtain ⟨rfl⟩ := zq1) | (with_reducible refine CallZ.z ?_) | simp -dsimp [go_sem, q1, q2])
            all_goals (intro _; omega)
          · rw [if_neg h20] at d
            repeat' (first | (with_reducible first | refine Cnd.intro (fun h => ?_) (fun h => ?_) | refine And.intro ?_ ?_ | refine Wk.refl ?_ | exact Weak.refl _ _ | refine weak_auto ?_ | apply awp_join) | ((try with_reducible refine CallZ.l ?_); with_reducible refine qcf (by first | exact d) ?_ ?_) | ((try with_reducible refine CallZ.l ?_); with_reducible refine qcn (by first | exact qkc d (by with_unfolding_all rfl)) ?_) | ((with_reducible refine qcz (by first | exact qkz d (by with_unfolding_all rfl)) ?_); intro zh1 zq1; (try simp -dsimp [go_sem] at zq1); obtain ⟨rfl⟩ := zq1) | (with_reducible refine CallZ.z ?_) | simp -dsimp [go_sem, q1, q2])
            all_goals (intro _; omega)
  have key1 : pk kind 4 = 1 → PCall Try.prog G 13 [iV kind, iV n] (bV true) := by
    intro hq
    rw [hq] at hpk w1 hmk
    have hmm : maker (2 + 1) r0 = ⟨7, aS, if (7 : Int) = 4 then aS else eS, aS, if (7 : Int) = 14 then -6 else 0⟩ := by rfl
    rw [hmm] at hmk
    have hk4 : (7 : Int) = 4 ∨ (7 : Int) = 7 ∨ (7 : Int) = 11 ∨ (7 : Int) = 14 := by decide
    simp only [Cmd.c, r0] at hmk
    simp (config := { decide := true }) only [if_true, if_false, Int.reduceAdd] at hmk
    have w9 : IntKind.i64.wrap 3 = 3 := rfl
    refine pcall mixed Try.func13 ok_rostrumkeep_FullTold rs_rostrumkeep_FullTold (by simp [Try.f13]) ?_
    unfold ac_rostrumkeep_FullTold
    repeat' (first | (with_reducible first | refine Cnd.intro (fun h => ?_) (fun h => ?_) | refine And.intro ?_ ?_ | refine Wk.refl ?_ | exact Weak.refl _ _ | refine weak_auto ?_ | apply awp_join) | ((try with_reducible refine CallZ.l ?_); with_reducible refine qcf (by first | exact hpk | exact hpk2) ?_ ?_) | ((try with_reducible refine CallZ.l ?_); with_reducible refine qcn (by first | exact qkc hpk (by with_unfolding_all rfl) | exact qkc hpk2 (by with_unfolding_all rfl)) ?_) | ((with_reducible refine qcz (by first | exact qkz hpk (by with_unfolding_all rfl) | exact qkz hpk2 (by with_unfolding_all rfl)) ?_); intro zh1 zq1; (try simp -dsimp [go_sem] at zq1); obtain ⟨rfl⟩ := zq1) | (with_reducible refine CallZ.z ?_) | simp -dsimp [go_sem, w1, w9])
    refine awp_loop (fun i : Nat => ⟨[(5, iV (2 + 1)), (6, .one (.ptr 0 0)), (7, iV M), (8, iV i)], G, [some (.box 29 (vF 7 i).c)]⟩) (fun i => i ≤ M) (fun i => M - i) 0 (weak_auto ?_) (Nat.zero_le _) ?_
    · simp -dsimp [go_sem, vF, zeroV, Val.c]
    · intro i hi
      by_cases hlt : i < M
      · have q1 : decide (i < M) = true := by simpa using hlt
        have e4 : IntKind.i64.wrap ((i : Int) + 1) = (i : Int) + 1 := IntWalk.i64_in _ (by omega)
        obtain ⟨r, hd, hr, hsm⟩ := vF_step hk4 (i := i) (by omega)
        have hdo := Do_c (G := G) (vF 7 i) (fullC 7 i) hsm
        rw [hd] at hdo
        have t1 : IntKind.i64.wrap ((i : Int) / 26) = (i : Int) / 26 := IntWalk.i64_in _ (by omega)
        have t2 : IntKind.i64.wrap ((i : Int) % 26) = (i : Int) % 26 := IntWalk.i64_in _ (by omega)
        have t3 : IntKind.i64.wrap (97 + (i : Int) % 26) = 97 + (i : Int) % 26 := IntWalk.i64_in _ (by omega)
        have t4 : IntKind.i64.wrap (97 + (i : Int) / 26) = 97 + (i : Int) / 26 := IntWalk.i64_in _ (by omega)
        have t5 : IntKind.u8.wrap (97 + (i : Int) % 26) = 97 + (i : Int) % 26 := IntWalk.u8_in _ (by omega)
        have t6 : IntKind.u8.wrap (97 + (i : Int) / 26) = 97 + (i : Int) / 26 := IntWalk.u8_in _ (by omega)
        have t7 : (97 + (i : Int) % 26).toNat = 97 + i % 26 := by omega
        have t8 : (97 + (i : Int) / 26).toNat = 97 + i / 26 := by omega
        have t0 : (i : Int).tmod 26 = (i : Int) % 26 := Int.tmod_eq_emod_of_nonneg (by omega)
        have t9 : UInt8.ofNat (97 + i % 26) = 97 + UInt8.ofNat (i % 26) := by simp
        have t10 : UInt8.ofNat (97 + i / 26) = 97 + UInt8.ofNat (i / 26) := by simp
        generalize vF 7 i = v at *
        generalize hw : vF 7 (i + 1) = w at *
        obtain ⟨vk, vt, vn, vp, vi, vs⟩ := v
        simp only [DoA, Val.c, Rep.c, Cmd.c, fullC, tS] at hdo ⊢
        simp (config := { decide := true }) only [if_true, if_false, t9, t10] at hdo
        repeat' (first | (with_reducible first | refine Cnd.intro (fun h => ?_) (fun h => ?_) | refine And.intro ?_ ?_ | refine Wk.refl ?_ | exact Weak.refl _ _ | refine weak_auto ?_ | apply awp_join) | ((try with_reducible refine CallZ.l ?_); with_reducible refine qcf (by first | exact hmk | exact hdo) ?_ ?_) | ((try with_reducible refine CallZ.l ?_); with_reducible refine qcn (by first | exact qkc hmk (by with_unfolding_all rfl) | exact qkc hdo (by with_unfolding_all rfl)) ?_) | ((with_reducible refine qcz (by first | exact qkz hmk (by with_unfolding_all rfl) | exact qkz hdo (by with_unfolding_all rfl)) ?_); intro zh1 zq1; (try simp -dsimp [go_sem] at zq1); obtain ⟨rfl⟩ := zq1) | (with_reducible refine CallZ.z ?_) | simp -dsimp [go_sem, q1, e4, t0, t1, t2, t3, t4, t5, t6, t7, t8, bytesOf, AE.byteOf, hr, Int.toNat_natCast])
        all_goals first
          | omega
          | (refine Again.auto (i + 1) ?_ hlt ?_
             · simp -dsimp [go_sem, hw, Val.c]
             · show M - (i + 1) < M - i; omega)
      · have q1 : decide (i < M) = false := by simpa using hlt
        obtain rfl : i = M := by omega
        by_cases h0 : i = 0
        · subst h0
          have d := Do_c (G := G) zeroV lenC zeroV_small
          rw [DoV_zero lenC_ok (by show (17 : Int) ≤ 18; omega), if_neg (by decide)] at d
          simp only [DoA, Val.c, Rep.c, Cmd.c, lenC, failR, zeroV, List.map_nil, vF] at d ⊢
          repeat' (first | (with_reducible first | refine Cnd.intro (fun h => ?_) (fun h => ?_) | refine And.intro ?_ ?_ | refine Wk.refl ?_ | exact Weak.refl _ _ | refine weak_auto ?_ | apply awp_join) | ((try with_reducible refine CallZ.l ?_); with_reducible refine qcf (by first | exact d) ?_ ?_) | ((try with_reducible refine CallZ.l ?_); with_reducible refine qcn (by first | exact qkc d (by with_unfolding_all rfl)) ?_) | ((with_reducible refine qcz (by first | exact qkz d (by with_unfolding_all rfl)) ?_); intro zh1 zq1; (try simp -dsimp [go_sem] at zq1); obtain ⟨rfl⟩ := zq1) | (with_reducible refine CallZ.z ?_) | simp -dsimp [go_sem, q1])
        · have hv := vF_inv hk4 i (by omega) (by omega)
          have d := Do_c (G := G) (vF 7 i) lenC hv.ok.small
          rw [len_done hv.ok (by rw [hv.kind]; decide), hv.els] at d
          have q2 : ((i : Int) == 0) = false := by simp; omega
          generalize vF 7 i = v at *
          simp only [DoA, Val.c, Rep.c, Cmd.c, lenC, toldR, List.map_nil] at d ⊢
          by_cases h20 : i < 20
          · rw [if_pos h20] at d
            repeat' (first | (with_reducible first | refine Cnd.intro (fun h => ?_) (fun h => ?_) | refine And.intro ?_ ?_ | refine Wk.refl ?_ | exact Weak.refl _ _ | refine weak_auto ?_ | apply awp_join) | ((try with_reducible refine CallZ.l ?_); with_reducible refine qcf (by first | exact d) ?_ ?_) | ((try with_reducible refine CallZ.l ?_); with_reducible refine qcn (by first | exact qkc d (by with_unfolding_all rfl)) ?_) | ((with_reducible refine qcz (by first | exact qkz d (by with_unfolding_all rfl)) ?_); intro zh1 zq1; (try simp -dsimp [go_sem] at zq1); obtain ⟨rfl⟩ := zq1) | (with_reducible refine CallZ.z ?_) | simp -dsimp [go_sem, q1, q2])
            all_goals (intro _; omega)
          · rw [if_neg h20] at d
            repeat' (first | (with_reducible first | refine Cnd.intro (fun h => ?_) (fun h => ?_) | refine And.intro ?_ ?_ | refine Wk.refl ?_ | exact Weak.refl _ _ | refine weak_auto ?_ | apply awp_join) | ((try with_reducible refine CallZ.l ?_); with_reducible refine qcf (by first | exact d) ?_ ?_) | ((try with_reducible refine CallZ.l ?_); with_reducible refine qcn (by first | exact qkc d (by with_unfolding_all rfl)) ?_) | ((with_reducible refine qcz (by first | exact qkz d (by with_unfolding_all rfl)) ?_); intro zh1 zq1; (try simp -dsimp [go_sem] at zq1); obtain ⟨rfl⟩ := zq1) | (with_reducible refine CallZ.z ?_) | simp -dsimp [go_sem, q1, q2])
            all_goals (intro _; omega)
  have key2 : pk kind 4 = 2 → PCall Try.prog G 13 [iV kind, iV n] (bV true) := by
    intro hq
    rw [hq] at hpk w1 hmk
    have hmm : maker (2 + 2) r0 = ⟨11, aS, if (11 : Int) = 4 then aS else eS, aS, if (11 : Int) = 14 then -6 else 0⟩ := by rfl
    rw [hmm] at hmk
    have hk4 : (11 : Int) = 4 ∨ (11 : Int) = 7 ∨ (11 : Int) = 11 ∨ (11 : Int) = 14 := by decide
    simp only [Cmd.c, r0] at hmk
    simp (config := { decide := true }) only [if_true, if_false, Int.reduceAdd] at hmk
    have w9 : IntKind.i64.wrap 4 = 4 := rfl
    refine pcall mixed Try.func13 ok_rostrumkeep_FullTold rs_rostrumkeep_FullTold (by simp [Try.f13]) ?_
    unfold ac_rostrumkeep_FullTold
    repeat' (first | (with_reducible first | refine Cnd.intro (fun h => ?_) (fun h => ?_) | refine And.intro ?_ ?_ | refine Wk.refl ?_ | exact Weak.refl _ _ | refine weak_auto ?_ | apply awp_join) | ((try with_reducible refine CallZ.l ?_); with_reducible refine qcf (by first | exact hpk | exact hpk2) ?_ ?_) | ((try with_reducible refine CallZ.l ?_); with_reducible refine qcn (by first | exact qkc hpk (by with_unfolding_all rfl) | exact qkc hpk2 (by with_unfolding_all rfl)) ?_) | ((with_reducible refine qcz (by first | exact qkz hpk (by with_unfolding_all rfl) | exact qkz hpk2 (by with_unfolding_all rfl)) ?_); intro zh1 zq1; (try simp -dsimp [go_sem] at zq1); obtain ⟨rfl⟩ := zq1) | (with_reducible refine CallZ.z ?_) | simp -dsimp [go_sem, w1, w9])
    refine awp_loop (fun i : Nat => ⟨[(5, iV (2 + 2)), (6, .one (.ptr 0 0)), (7, iV M), (8, iV i)], G, [some (.box 29 (vF 11 i).c)]⟩) (fun i => i ≤ M) (fun i => M - i) 0 (weak_auto ?_) (Nat.zero_le _) ?_
    · simp -dsimp [go_sem, vF, zeroV, Val.c]
    · intro i hi
      by_cases hlt : i < M
      · have q1 : decide (i < M) = true := by simpa using hlt
        have e4 : IntKind.i64.wrap ((i : Int) + 1) = (i : Int) + 1 := IntWalk.i64_in _ (by omega)
        obtain ⟨r, hd, hr, hsm⟩ := vF_step hk4 (i := i) (by omega)
        have hdo := Do_c (G := G) (vF 11 i) (fullC 11 i) hsm
        rw [hd] at hdo
        have t1 : IntKind.i64.wrap ((i : Int) / 26) = (i : Int) / 26 := IntWalk.i64_in _ (by omega)
        have t2 : IntKind.i64.wrap ((i : Int) % 26) = (i : Int) % 26 := IntWalk.i64_in _ (by omega)
        have t3 : IntKind.i64.wrap (97 + (i : Int) % 26) = 97 + (i : Int) % 26 := IntWalk.i64_in _ (by omega)
        have t4 : IntKind.i64.wrap (97 + (i : Int) / 26) = 97 + (i : Int) / 26 := IntWalk.i64_in _ (by omega)
        have t5 : IntKind.u8.wrap (97 + (i : Int) % 26) = 97 + (i : Int) % 26 := IntWalk.u8_in _ (by omega)
        have t6 : IntKind.u8.wrap (97 + (i : Int) / 26) = 97 + (i : Int) / 26 := IntWalk.u8_in _ (by omega)
        have t7 : (97 + (i : Int) % 26).toNat = 97 + i % 26 := by omega
        have t8 : (97 + (i : Int) / 26).toNat = 97 + i / 26 := by omega
        have t0 : (i : Int).tmod 26 = (i : Int) % 26 := Int.tmod_eq_emod_of_nonneg (by omega)
        have t9 : UInt8.ofNat (97 + i % 26) = 97 + UInt8.ofNat (i % 26) := by simp
        have t10 : UInt8.ofNat (97 + i / 26) = 97 + UInt8.ofNat (i / 26) := by simp
        generalize vF 11 i = v at *
        generalize hw : vF 11 (i + 1) = w at *
        obtain ⟨vk, vt, vn, vp, vi, vs⟩ := v
        simp only [DoA, Val.c, Rep.c, Cmd.c, fullC, tS] at hdo ⊢
        simp (config := { decide := true }) only [if_true, if_false, t9, t10] at hdo
        repeat' (first | (with_reducible first | refine Cnd.intro (fun h => ?_) (fun h => ?_) | refine And.intro ?_ ?_ | refine Wk.refl ?_ | exact Weak.refl _ _ | refine weak_auto ?_ | apply awp_join) | ((try with_reducible refine CallZ.l ?_); with_reducible refine qcf (by first | exact hmk | exact hdo) ?_ ?_) | ((try with_reducible refine CallZ.l ?_); with_reducible refine qcn (by first | exact qkc hmk (by with_unfolding_all rfl) | exact qkc hdo (by with_unfolding_all rfl)) ?_) | ((with_reducible refine qcz (by first | exact qkz hmk (by with_unfolding_all rfl) | exact qkz hdo (by with_unfolding_all rfl)) ?_); intro zh1 zq1; (try simp -dsimp [go_sem] at zq1); obtain ⟨rfl⟩ := zq1) | (with_reducible refine CallZ.z ?_) | simp -dsimp [go_sem, q1, e4, t0, t1, t2, t3, t4, t5, t6, t7, t8, bytesOf, AE.byteOf, hr, Int.toNat_natCast])
        all_goals first
          | omega
          | (refine Again.auto (i + 1) ?_ hlt ?_
             · simp -dsimp [go_sem, hw, Val.c]
             · show M - (i + 1) < M - i; omega)
      · have q1 : decide (i < M) = false := by simpa using hlt
        obtain rfl : i = M := by omega
        by_cases h0 : i = 0
        · subst h0
          have d := Do_c (G := G) zeroV lenC zeroV_small
          rw [DoV_zero lenC_ok (by show (17 : Int) ≤ 18; omega), if_neg (by decide)] at d
          simp only [DoA, Val.c, Rep.c, Cmd.c, lenC, failR, zeroV, List.map_nil, vF] at d ⊢
          repeat' (first | (with_reducible first | refine Cnd.intro (fun h => ?_) (fun h => ?_) | refine And.intro ?_ ?_ | refine Wk.refl ?_ | exact Weak.refl _ _ | refine weak_auto ?_ | apply awp_join) | ((try with_reducible refine CallZ.l ?_); with_reducible refine qcf (by first | exact d) ?_ ?_) | ((try with_reducible refine CallZ.l ?_); with_reducible refine qcn (by first | exact qkc d (by with_unfolding_all rfl)) ?_) | ((with_reducible refine qcz (by first | exact qkz d (by with_unfolding_all rfl)) ?_); intro zh1 zq1; (try simp -dsimp [go_sem] at zq1); obtain ⟨rfl⟩ := zq1) | (with_reducible refine CallZ.z ?_) | simp -dsimp [go_sem, q1])
        · have hv := vF_inv hk4 i (by omega) (by omega)
          have d := Do_c (G := G) (vF 11 i) lenC hv.ok.small
          rw [len_done hv.ok (by rw [hv.kind]; decide), hv.els] at d
          have q2 : ((i : Int) == 0) = false := by simp; omega
          generalize vF 11 i = v at *
          simp only [DoA, Val.c, Rep.c, Cmd.c, lenC, toldR, List.map_nil] at d ⊢
          by_cases h20 : i < 20
          · rw [if_pos h20] at d
            repeat' (first | (with_reducible first | refine Cnd.intro (fun h => ?_) (fun h => ?_) | refine And.intro ?_ ?_ | refine Wk.refl ?_ | exact Weak.refl _ _ | refine weak_auto ?_ | apply awp_join) | ((try with_reducible refine CallZ.l ?_); with_reducible refine qcf (by first | exact d) ?_ ?_) | ((try with_reducible refine CallZ.l ?_); with_reducible refine qcn (by first | exact qkc d (by with_unfolding_all rfl)) ?_) | ((with_reducible refine qcz (by first | exact qkz d (by with_unfolding_all rfl)) ?_); intro zh1 zq1; (try simp -dsimp [go_sem] at zq1); obtain ⟨rfl⟩ := zq1) | (with_reducible refine CallZ.z ?_) | simp -dsimp [go_sem, q1, q2])
            all_goals (intro _; omega)
          · rw [if_neg h20] at d
            repeat' (first | (with_reducible first | refine Cnd.intro (fun h => ?_) (fun h => ?_) | refine And.intro ?_ ?_ | refine Wk.refl ?_ | exact Weak.refl _ _ | refine weak_auto ?_ | apply awp_join) | ((try with_reducible refine CallZ.l ?_); with_reducible refine qcf (by first | exact d) ?_ ?_) | ((try with_reducible refine CallZ.l ?_); with_reducible refine qcn (by first | exact qkc d (by with_unfolding_all rfl)) ?_) | ((with_reducible refine qcz (by first | exact qkz d (by with_unfolding_all rfl)) ?_); intro zh1 zq1; (try simp -dsimp [go_sem] at zq1); obtain ⟨rfl⟩ := zq1) | (with_reducible refine CallZ.z ?_) | simp -dsimp [go_sem, q1, q2])
            all_goals (intro _; omega)
  have key3 : pk kind 4 = 3 → PCall Try.prog G 13 [iV kind, iV n] (bV true) := by
    intro hq
    rw [hq] at hpk w1 hmk
    have hmm : maker (2 + 3) r0 = ⟨14, aS, if (14 : Int) = 4 then aS else eS, aS, if (14 : Int) = 14 then -6 else 0⟩ := by rfl
    rw [hmm] at hmk
    have hk4 : (14 : Int) = 4 ∨ (14 : Int) = 7 ∨ (14 : Int) = 11 ∨ (14 : Int) = 14 := by decide
    simp only [Cmd.c, r0] at hmk
    simp (config := { decide := true }) only [if_true, if_false, Int.reduceAdd] at hmk
    have w9 : IntKind.i64.wrap 5 = 5 := rfl
    refine pcall mixed Try.func13 ok_rostrumkeep_FullTold rs_rostrumkeep_FullTold (by simp [Try.f13]) ?_
    unfold ac_rostrumkeep_FullTold
    repeat' (first | (with_reducible first | refine Cnd.intro (fun h => ?_) (fun h => ?_) | refine And.intro ?_ ?_ | refine Wk.refl ?_ | exact Weak.refl _ _ | refine weak_auto ?_ | apply awp_join) | ((try with_reducible refine CallZ.l ?_); with_reducible refine qcf (by first | exact hpk | exact hpk2) ?_ ?_) | ((try with_reducible refine CallZ.l ?_); with_reducible refine qcn (by first | exact qkc hpk (by with_unfolding_all rfl) | exact qkc hpk2 (by with_unfolding_all rfl)) ?_) | ((with_reducible refine qcz (by first | exact qkz hpk (by with_unfolding_all rfl) | exact qkz hpk2 (by with_unfolding_all rfl)) ?_); intro zh1 zq1; (try simp -dsimp [go_sem] at zq1); obtain ⟨rfl⟩ := zq1) | (with_reducible refine CallZ.z ?_) | simp -dsimp [go_sem, w1, w9])
    refine awp_loop (fun i : Nat => ⟨[(5, iV (2 + 3)), (6, .one (.ptr 0 0)), (7, iV M), (8, iV i)], G, [some (.box 29 (vF 14 i).c)]⟩) (fun i => i ≤ M) (fun i => M - i) 0 (weak_auto ?_) (Nat.zero_le _) ?_
    · simp -dsimp [go_sem, vF, zeroV, Val.c]
    · intro i hi
      by_cases hlt : i < M
      · have q1 : decide (i < M) = true := by simpa using hlt
        have e4 : IntKind.i64.wrap ((i : Int) + 1) = (i : Int) + 1 := IntWalk.i64_in _ (by omega)
        obtain ⟨r, hd, hr, hsm⟩ := vF_step hk4 (i := i) (by omega)
        have hdo := Do_c (G := G) (vF 14 i) (fullC 14 i) hsm
        rw [hd] at hdo
        have t1 : IntKind.i64.wrap ((i : Int) / 26) = (i : Int) / 26 := IntWalk.i64_in _ (by omega)
        have t2 : IntKind.i64.wrap ((i : Int) % 26) = (i : Int) % 26 := IntWalk.i64_in _ (by omega)
        have t3 : IntKind.i64.wrap (97 + (i : Int) % 26) = 97 + (i : Int) % 26 := IntWalk.i64_in _ (by omega)
        have t4 : IntKind.i64.wrap (97 + (i : Int) / 26) = 97 + (i : Int) / 26 := IntWalk.i64_in _ (by omega)
        have t5 : IntKind.u8.wrap (97 + (i : Int) % 26) = 97 + (i : Int) % 26 := IntWalk.u8_in _ (by omega)
        have t6 : IntKind.u8.wrap (97 + (i : Int) / 26) = 97 + (i : Int) / 26 := IntWalk.u8_in _ (by omega)
        have t7 : (97 + (i : Int) % 26).toNat = 97 + i % 26 := by omega
        have t8 : (97 + (i : Int) / 26).toNat = 97 + i / 26 := by omega
        have t0 : (i : Int).tmod 26 = (i : Int) % 26 := Int.tmod_eq_emod_of_nonneg (by omega)
        have t9 : UInt8.ofNat (97 + i % 26) = 97 + UInt8.ofNat (i % 26) := by simp
        have t10 : UInt8.ofNat (97 + i / 26) = 97 + UInt8.ofNat (i / 26) := by simp
        generalize vF 14 i = v at *
        generalize hw : vF 14 (i + 1) = w at *
        obtain ⟨vk, vt, vn, vp, vi, vs⟩ := v
        simp only [DoA, Val.c, Rep.c, Cmd.c, fullC, tS] at hdo ⊢
        simp (config := { decide := true }) only [if_true, if_false, t9, t10] at hdo
        repeat' (first | (with_reducible first | refine Cnd.intro (fun h => ?_) (fun h => ?_) | refine And.intro ?_ ?_ | refine Wk.refl ?_ | exact Weak.refl _ _ | refine weak_auto ?_ | apply awp_join) | ((try with_reducible refine CallZ.l ?_); with_reducible refine qcf (by first | exact hmk | exact hdo) ?_ ?_) | ((try with_reducible refine CallZ.l ?_); with_reducible refine qcn (by first | exact qkc hmk (by with_unfolding_all rfl) | exact qkc hdo (by with_unfolding_all rfl)) ?_) | ((with_reducible refine qcz (by first | exact qkz hmk (by with_unfolding_all rfl) | exact qkz hdo (by with_unfolding_all rfl)) ?_); intro zh1 zq1; (try simp -dsimp [go_sem] at zq1); obtain ⟨rfl⟩ := zq1) | (with_reducible refine CallZ.z ?_) | simp -dsimp [go_sem, q1, e4, t0, t1, t2, t3, t4, t5, t6, t7, t8, bytesOf, AE.byteOf, hr, Int.toNat_natCast])
        all_goals first
          | omega
          | (refine Again.auto (i + 1) ?_ hlt ?_
             · simp -dsimp [go_sem, hw, Val.c]
             · show M - (i + 1) < M - i; omega)
      · have q1 : decide (i < M) = false := by simpa using hlt
        obtain rfl : i = M := by omega
        by_cases h0 : i = 0
        · subst h0
          have d := Do_c (G := G) zeroV lenC zeroV_small
          rw [DoV_zero lenC_ok (by show (17 : Int) ≤ 18; omega), if_neg (by decide)] at d
          simp only [DoA, Val.c, Rep.c, Cmd.c, lenC, failR, zeroV, List.map_nil, vF] at d ⊢
          repeat' (first | (with_reducible first | refine Cnd.intro (fun h => ?_) (fun h => ?_) | refine And.intro ?_ ?_ | refine Wk.refl ?_ | exact Weak.refl _ _ | refine weak_auto ?_ | apply awp_join) | ((try with_reducible refine CallZ.l ?_); with_reducible refine qcf (by first | exact d) ?_ ?_) | ((try with_reducible refine CallZ.l ?_); with_reducible refine qcn (by first | exact qkc d (by with_unfolding_all rfl)) ?_) | ((with_reducible refine qcz (by first | exact qkz d (by with_unfolding_all rfl)) ?_); intro zh1 zq1; (try simp -dsimp [go_sem] at zq1); obtain ⟨rfl⟩ := zq1) | (with_reducible refine CallZ.z ?_) | simp -dsimp [go_sem, q1])
        · have hv := vF_inv hk4 i (by omega) (by omega)
          have d := Do_c (G := G) (vF 14 i) lenC hv.ok.small
          rw [len_done hv.ok (by rw [hv.kind]; decide), hv.els] at d
          have q2 : ((i : Int) == 0) = false := by simp; omega
          generalize vF 14 i = v at *
          simp only [DoA, Val.c, Rep.c, Cmd.c, lenC, toldR, List.map_nil] at d ⊢
          by_cases h20 : i < 20
          · rw [if_pos h20] at d
            repeat' (first | (with_reducible first | refine Cnd.intro (fun h => ?_) (fun h => ?_) | refine And.intro ?_ ?_ | refine Wk.refl ?_ | exact Weak.refl _ _ | refine weak_auto ?_ | apply awp_join) | ((try with_reducible refine CallZ.l ?_); with_reducible refine qcf (by first | exact d) ?_ ?_) | ((try with_reducible refine CallZ.l ?_); with_reducible refine qcn (by first | exact qkc d (by with_unfolding_all rfl)) ?_) | ((with_reducible refine qcz (by first | exact qkz d (by with_unfolding_all rfl)) ?_); intro zh1 zq1; (try simp -dsimp [go_sem] at zq1); obtain ⟨rfl⟩ := zq1) | (with_reducible refine CallZ.z ?_) | simp -dsimp [go_sem, q1, q2])
            all_goals (intro _; omega)
          · rw [if_neg h20] at d
            repeat' (first | (with_reducible first | refine Cnd.intro (fun h => ?_) (fun h => ?_) | refine And.intro ?_ ?_ | refine Wk.refl ?_ | exact Weak.refl _ _ | refine weak_auto ?_ | apply awp_join) | ((try with_reducible refine CallZ.l ?_); with_reducible refine qcf (by first | exact d) ?_ ?_) | ((try with_reducible refine CallZ.l ?_); with_reducible refine qcn (by first | exact qkc d (by with_unfolding_all rfl)) ?_) | ((with_reducible refine qcz (by first | exact qkz d (by with_unfolding_all rfl)) ?_); intro zh1 zq1; (try simp -dsimp [go_sem] at zq1); obtain ⟨rfl⟩ := zq1) | (with_reducible refine CallZ.z ?_) | simp -dsimp [go_sem, q1, q2])
            all_goals (intro _; omega)
  rcases q with q | q | q | q
  · exact key0 q
  · exact key1 q
  · exact key2 q
  · exact key3 q
end Go.Proofs.Ytacdeehkdepiaaa
