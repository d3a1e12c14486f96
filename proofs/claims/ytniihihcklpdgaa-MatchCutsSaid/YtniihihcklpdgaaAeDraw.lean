/- The abstract evaluator, part 12a: regions whose order Go leaves open: the plain part (orders, who comes before whom). -/
import Derived.Test.YtniihihcklpdgaaAeIR
set_option linter.unusedVariables false
set_option linter.unusedSimpArgs false
namespace Go.Proofs.AE
open Go Go.RowKit

/-! ### who comes before whom -/
theorem ancStep_spec {acc : List Nat} {o : Oper} {j : Nat} (h : (ancStep acc o).testBit j = true) : ∃ e ∈ edgesOf o, e = j ∨ (acc.getD e 0).testBit j = true := by
  unfold ancStep at h
  have key : ∀ (l : List Nat) (s : Nat), (l.foldl (fun s j => s ||| 2 ^ j ||| acc.getD j 0) s).testBit j = true → s.testBit j = true ∨ ∃ e ∈ l, e = j ∨ (acc.getD e 0).testBit j = true := by
    intro l
    induction l with
    | nil => intro s h; exact .inl h
    | cons e l ih =>
      intro s h
      rcases ih _ h with h1 | ⟨e', he, h1⟩
      · simp only [Nat.testBit_or, Bool.or_eq_true, Nat.testBit_two_pow, decide_eq_true_eq] at h1
        rcases h1 with (h1 | h1) | h1
        · exact .inl h1
        · exact .inr ⟨e, by simp, .inl h1⟩
        · exact .inr ⟨e, by simp, .inr h1⟩
      · exact .inr ⟨e', by simp [he], h1⟩
  rcases key _ _ h with h1 | h1
  · simp at h1
  · exact h1

theorem ancs_spec : ∀ (l : List Oper) (acc : List Nat) (pre : List Oper), acc.length = pre.length →
    (∀ (i j : Nat), (acc.getD i 0).testBit j = true → ∃ o, pre[i]? = some o ∧ ∃ e ∈ edgesOf o, e = j ∨ (acc.getD e 0).testBit j = true) →
    ∀ (i j : Nat), ((ancs l acc).getD i 0).testBit j = true → ∃ o, (pre ++ l)[i]? = some o ∧ ∃ e ∈ edgesOf o, e = j ∨ ((ancs l acc).getD e 0).testBit j = true := by
  intro l
  induction l with
  | nil => intro acc pre hl h i j hij; simpa [ancs] using h i j hij
  | cons o l ih =>
    intro acc pre hl h i j hij
    have hle : ∀ e, (acc.getD e 0).testBit j = true → ∀ x : Nat, ((acc ++ [x]).getD e 0).testBit j = true := by
      intro e he x
      by_cases hlt : e < acc.length
      · rwa [List.getD_eq_getElem?_getD, List.getElem?_append_left hlt, ← List.getD_eq_getElem?_getD]
      · rw [List.getD_eq_getElem?_getD, List.getElem?_eq_none (by omega)] at he; simp at he
    have := ih (acc ++ [ancStep acc o]) (pre ++ [o]) (by simp [hl]) ?_ i j (by simpa [ancs] using hij)
    · simpa [ancs] using this
    · intro i j hij
      have hle : ∀ e, (acc.getD e 0).testBit j = true → ((acc ++ [ancStep acc o]).getD e 0).testBit j = true := by
        intro e he
        by_cases hlt : e < acc.length
        · rwa [List.getD_eq_getElem?_getD, List.getElem?_append_left hlt, ← List.getD_eq_getElem?_getD]
        · rw [List.getD_eq_getElem?_getD, List.getElem?_eq_none (by omega)] at he; simp at he
      by_cases hi : i < acc.length
      · rw [List.getD_eq_getElem?_getD, List.getElem?_append_left hi, ← List.getD_eq_getElem?_getD] at hij
        obtain ⟨o', h1, e, h2, h3⟩ := h i j hij
        exact ⟨o', by rw [List.getElem?_append_left (by omega)]; exact h1, e, h2, h3.imp id (hle e)⟩
      · by_cases hi2 : i = acc.length
        · subst hi2
          rw [List.getD_eq_getElem?_getD, List.getElem?_append_right (Nat.le_refl _)] at hij
          simp only [Nat.sub_self, List.getElem?_cons_zero, Option.getD_some] at hij
          obtain ⟨e, h2, h3⟩ := ancStep_spec hij
          exact ⟨o, by rw [hl]; simp, e, h2, h3.imp id (hle e)⟩
        · rw [List.getD_eq_getElem?_getD, List.getElem?_eq_none (by simp; omega)] at hij; simp at hij

theorem ancT_spec {ops : Array Oper} {i j : Nat} (h : ancB (ancT ops) i j = true) : ∃ o, ops[i]? = some o ∧ ∃ e ∈ edgesOf o, e = j ∨ ancB (ancT ops) e j = true := by
  have := ancs_spec ops.toList [] [] rfl (fun i j h => by simp at h) i j h
  simpa [ancB, ancT] using this

theorem acyc_spec {ops : Array Oper} (h : acyc ops = true) {i : Nat} {o : Oper} (ho : ops[i]? = some o) {e : Nat} (he : e ∈ edgesOf o) : e < i := by
  unfold acyc at h
  rw [List.all_eq_true] at h
  have hm : (o, i) ∈ ops.toList.zipIdx := by
    rw [List.mem_zipIdx_iff_getElem?]; simpa using ho
  have := h _ hm
  simp only [List.all_eq_true, decide_eq_true_eq] at this
  exact this e he

/-- What is closed under direct edges is closed under all. -/
theorem closed_anc {ops : Array Oper} (hac : acyc ops = true) {X : Nat → Prop} (hX : ∀ i o e, X i → ops[i]? = some o → e ∈ edgesOf o → X e) : ∀ (i j : Nat), X i → ancB (ancT ops) i j = true → X j := by
  intro i
  induction i using Nat.strongRecOn with
  | _ i ih =>
    intro j hi h
    obtain ⟨o, ho, e, he, h1⟩ := ancT_spec h
    have hlt := acyc_spec hac ho he
    have hxe := hX i o e hi ho he
    rcases h1 with rfl | h1
    · exact hxe
    · exact ih e hlt j hxe h1

/-! ### the orders that Go allows -/
/-- A list of operations, each behind those that it hangs on. -/
def Topo (ops : Array Oper) : (X : Nat → Prop) → List Nat → Prop
  | _, [] => True
  | X, i :: r => ¬ X i ∧ (∃ o, ops[i]? = some o ∧ ∀ e ∈ edgesOf o, X e) ∧ Topo ops (fun j => X j ∨ j = i) r

theorem topo_congr {ops : Array Oper} : ∀ {l : List Nat} {X Y : Nat → Prop}, (∀ j, X j ↔ Y j) → Topo ops X l → Topo ops Y l
  | [], _, _, _, _ => trivial
  | i :: r, X, Y, h, ⟨h1, ⟨o, h2, h3⟩, h4⟩ => ⟨fun hy => h1 ((h i).2 hy), ⟨o, h2, fun e he => (h e).1 (h3 e he)⟩, topo_congr (fun j => or_congr (h j) Iff.rfl) h4⟩

def unlisted (ops : Array Oper) (listed : Array Bool) : Nat := ((List.range ops.size).filter fun i => !listed.getD i true).length

theorem go_topo {ops : Array Oper} (hac : acyc ops = true) : ∀ (fuel t : Nat) (listed : Array Bool), listed.size = ops.size → unlisted ops listed ≤ fuel →
    Topo ops (fun j => listed.getD j false = true) (Region.linearise.go .any ops fuel t listed []) ∧ ∀ j, j < ops.size → listed.getD j false = true ∨ j ∈ Region.linearise.go .any ops fuel t listed [] := by
  intro fuel
  induction fuel with
  | zero =>
    intro t listed hs hu
    refine ⟨trivial, fun j hj => ?_⟩
    left
    have h0 : ((List.range ops.size).filter fun i => !listed.getD i true) = [] := List.eq_nil_of_length_eq_zero (by unfold unlisted at hu; omega)
    rw [List.filter_eq_nil_iff] at h0
    have := h0 j (List.mem_range.2 hj)
    simp only [Bool.not_eq_true', Bool.not_eq_false] at this
    have hlt : j < listed.size := by omega
    simp only [Array.getD_eq_getD_getElem?, Array.getElem?_eq_getElem hlt, Option.getD_some] at this ⊢
    exact this
  | succ fuel ih =>
    intro t listed hs hu
    simp only [Region.linearise.go]
    change Topo ops _ (match (Region.ready .any ops listed)[t % (Region.ready .any ops listed).length]? with
      | some i => Region.linearise.go .any ops fuel (t / (Region.ready .any ops listed).length) (listed.setIfInBounds i true) [i]
      | none => [].reverse) ∧ ∀ j, j < ops.size → _ ∨ j ∈ (match (Region.ready .any ops listed)[t % (Region.ready .any ops listed).length]? with
      | some i => Region.linearise.go .any ops fuel (t / (Region.ready .any ops listed).length) (listed.setIfInBounds i true) [i]
      | none => [].reverse)
    cases hi : (Region.ready .any ops listed)[t % (Region.ready .any ops listed).length]? with
    | none =>
      have hnil : Region.ready .any ops listed = [] := by
        cases hr : Region.ready .any ops listed with
        | nil => rfl
        | cons x xs =>
          rw [hr] at hi
          have hlt : t % (x :: xs).length < (x :: xs).length := Nat.mod_lt _ (by simp)
          rw [List.getElem?_eq_getElem hlt] at hi; cases hi
      refine ⟨trivial, fun j hj => ?_⟩
      left
      -- the least that is not listed would be ready
      have key : ∀ (q : Nat), q < ops.size → listed.getD q false = true := by
        intro q
        induction q using Nat.strongRecOn with
        | _ q ihq =>
          intro hq
          by_cases hl : listed.getD q false = true
          · exact hl
          · exfalso
            have hlt : q < listed.size := by omega
            have hmem : q ∈ Region.ready .any ops listed := by
              unfold Region.ready
              rw [List.mem_filter]
              refine ⟨List.mem_range.2 hq, ?_⟩
              have ho : ops[q]? = some ops[q] := Array.getElem?_eq_getElem hq
              simp only [ho, Option.map_some, Option.getD_some, Bool.and_eq_true, Bool.not_eq_true']
              constructor
              · simp only [Array.getD_eq_getD_getElem?, Array.getElem?_eq_getElem hlt, Option.getD_some] at hl ⊢
                simpa using hl
              · rw [Array.all_eq_true_iff_forall_mem]
                intro e he
                by_cases hb : Region.binds .any e = true
                · have hmem : e.on ∈ edgesOf ops[q] := by
                    unfold edgesOf; rw [List.mem_map]; exact ⟨e, List.mem_filter.2 ⟨by simpa using he, hb⟩, rfl⟩
                  have := acyc_spec hac ho hmem
                  rw [ihq e.on this (by omega)]; simp
                · simp [hb]
            rw [hnil] at hmem; cases hmem
      exact key j hj
    | some i =>
      have hmem := List.mem_of_getElem? hi
      simp only [linearise_go_acc .any ops fuel _ _ [i], List.reverse_singleton, List.singleton_append]
      unfold Region.ready at hmem
      rw [List.mem_filter] at hmem
      obtain ⟨hr, hc⟩ := hmem
      have hisz := List.mem_range.1 hr
      have hlt : i < listed.size := by omega
      have ho : ops[i]? = some ops[i] := Array.getElem?_eq_getElem hisz
      simp only [ho, Option.map_some, Option.getD_some, Bool.and_eq_true, Bool.not_eq_true'] at hc
      obtain ⟨hnl, hall⟩ := hc
      have hset : ∀ j, ((listed.setIfInBounds i true).getD j false = true) ↔ (listed.getD j false = true ∨ j = i) := by
        intro j
        simp only [Array.getD_eq_getD_getElem?, Array.getElem?_setIfInBounds]
        by_cases hij : i = j
        · subst hij; simp [hlt]
        · rw [if_neg hij]
          constructor
          · intro h; exact .inl h
          · rintro (h | h)
            · exact h
            · exact (hij h.symm).elim
      have hcnt : unlisted ops (listed.setIfInBounds i true) ≤ fuel := by
        have : unlisted ops (listed.setIfInBounds i true) < unlisted ops listed := by
          unfold unlisted
          have hsub : ((List.range ops.size).filter fun q => !(listed.setIfInBounds i true).getD q true) = ((List.range ops.size).filter fun q => !listed.getD q true).filter fun q => q != i := by
            rw [List.filter_filter]
            apply List.filter_congr
            intro q hq
            have hq' := List.mem_range.1 hq
            have hql : q < listed.size := by omega
            simp only [Array.getD_eq_getD_getElem?, Array.getElem?_setIfInBounds]
            by_cases hiq : i = q
            · subst hiq; simp [hlt]
            · rw [if_neg hiq]
              have : (q != i) = true := by simpa using fun e => hiq e.symm
              rw [this, Bool.true_and]
          rw [hsub]
          have hin : i ∈ (List.range ops.size).filter fun q => !listed.getD q true := List.mem_filter.2 ⟨hr, by simp [hnl]⟩
          have := List.length_filter_lt_length_iff_exists (p := fun q => q != i) (l := (List.range ops.size).filter fun q => !listed.getD q true)
          exact this.2 ⟨i, hin, by simp⟩
        omega
      obtain ⟨h1, h2⟩ := ih (t / (Region.ready .any ops listed).length) (listed.setIfInBounds i true) (by simpa using hs) hcnt
      refine ⟨⟨?_, ⟨ops[i], ho, fun e he => ?_⟩, topo_congr hset h1⟩, fun j hj => ?_⟩
      · simp only [Array.getD_eq_getD_getElem?, Array.getElem?_eq_getElem hlt, Option.getD_some] at hnl ⊢
        simp [hnl]
      · unfold edgesOf at he
        rw [List.mem_map] at he
        obtain ⟨ed, hed, rfl⟩ := he
        obtain ⟨hed1, hed2⟩ := List.mem_filter.1 hed
        rw [Array.all_eq_true_iff_forall_mem] at hall
        have := hall ed (by simpa using hed1)
        simpa [hed2] using this
      · rcases h2 j hj with h3 | h3
        · rcases (hset j).1 h3 with h4 | h4
          · exact .inl h4
          · exact .inr (by rw [h4]; simp)
        · exact .inr (List.mem_cons_of_mem _ h3)

end Go.Proofs.AE
