/- Values that have something. -/
import Derived.Test.YtcfpphadlgbfdaaL3
set_option linter.unusedVariables false
set_option linter.unusedSimpArgs false
set_option maxRecDepth 100000
set_option maxHeartbeats 8000000
namespace Go.Proofs.Ytcfpphadlgbfdaa
open Go Go.RowKit Go.Proofs.AE
variable {G : Nat → AV}
def kindM (k : Int) : Int := if k = 1 then 1 else kindOfC k
def makes6 (k : Int) : Prop := k = 1 ∨ k = 3 ∨ k = 4 ∨ k = 7 ∨ k = 11 ∨ k = 14
theorem makes6_ok {k : Int} (h : makes6 k) : makesC k = true ∧ 1 ≤ k ∧ k ≤ 14 ∧ 1 ≤ kindM k ∧ (k ≠ 1 → kindM k = kindOfC k) := by
  rcases h with h | h | h | h | h | h <;> subst h <;> exact ⟨rfl, by omega, by omega, by decide, fun h1 => by unfold kindM; rw [if_neg h1]⟩
theorem doV_kindM {v : Val} {c : Cmd} (hm : makes6 c.kind) (hv : c.kind = 1 ∨ v.kind = kindOfC c.kind) : (doV v c).1.kind = kindM c.kind := by
  by_cases h1 : c.kind = 1
  · unfold doV kindM; rw [if_pos h1, if_pos h1]
  · have hv := hv.resolve_left h1
    unfold kindM
    rw [if_neg h1, ← hv]
    by_cases h3 : c.kind = 3
    · unfold doV; simp only [h3]; simp; split <;> rfl
    · exact doV_kind (by unfold makes6 at hm; omega)
theorem made_els {v : Val} {c : Cmd} (hm : c.kind = 4 ∨ c.kind = 7 ∨ c.kind = 11 ∨ c.kind = 14) (hv : v.kind = kindOfC c.kind) : v.els ≤ (doV v c).1.els := by
  rcases hm with h | h | h | h
  · have hv' : v.kind = 3 := by rw [hv, h]; rfl
    have : v.pairs.length ≤ (hashV v.pairs c).1.length := by
      unfold hashV
      simp only [h]
      simp
      split
      · simp
      · split
        · simp
        · simp [insAt]; omega
    unfold doV Val.els
    simp [h, hv']
    omega
  · have hv' : v.kind = 4 := by rw [hv, h]; rfl
    have : v.items.length ≤ (listV v.items c).1.length := by
      unfold listV
      simp only [h]
      split <;> simp
    unfold doV Val.els
    simp [h, hv']
    omega
  · have hv' : v.kind = 5 := by rw [hv, h]; rfl
    have : v.items.length ≤ (setV v.items c).1.length := by
      unfold setV
      simp only [h]
      simp
      split
      · simp
      · split
        · simp
        · simp [insAt]; omega
    unfold doV Val.els
    simp [h, hv']
    omega
  · have hv' : v.kind = 6 := by rw [hv, h]; rfl
    have : v.scores.length ≤ (ranksV v.scores c).1.length := by
      unfold ranksV
      simp only [h]
      simp
      split
      · simp
      · have : v.scores.length ≤ (rankCut v.scores c.text).length + 1 := by
          unfold rankCut
          split
          · omega
          · simp [delAt]; omega
        simp [insAt]; omega
    unfold doV Val.els
    simp [h, hv']
    omega
theorem Vk.there {v : Val} (h : Vk v) (hk : v.kind ≠ 0) : OkV v := by
  rcases h with h | h
  · exact h
  · rw [h] at hk; exact absurd rfl hk
theorem made_more {v : Val} {c : Cmd} (ok : OkV v) (hc : checkC c = 0) (hm : makes6 c.kind) (hv : v.kind = kindM c.kind) : OkV (DoV v c).1 ∧ (DoV v c).1.kind = kindM c.kind := by
  obtain ⟨m1, m2, m3, m4, m5⟩ := makes6_ok hm
  have hvk := (DoV_vk (.inl ok) hc (by omega)).2
  have hv1 : c.kind = 1 ∨ v.kind = kindOfC c.kind := by
    by_cases h1 : c.kind = 1
    · exact .inl h1
    · exact .inr (by rw [hv, m5 h1])
  have hkq := doV_kindM hm hv1
  have e : DoV v c = DoEnd v (doV v c) := DoV_go (checkV_iff.2 ok) hc (by omega) (by
    rintro (h | h)
    · rcases hv1 with h1 | h1
      · exact h.1 (by rw [h1]; rfl)
      · exact h.2 h1.symm
    · omega)
  rw [e] at hvk ⊢
  have : (DoEnd v (doV v c)).1.kind = kindM c.kind := by
    unfold DoEnd
    split
    · exact hv
    · split
      · rename_i h1 h2
        exfalso
        rw [hkq] at h2
        have hm4 : c.kind = 4 ∨ c.kind = 7 ∨ c.kind = 11 ∨ c.kind = 14 := by
          rcases hm with h | h | h | h | h | h
          · rw [h] at h2; exact absurd h2.1 (by decide)
          · rw [h] at h2; exact absurd h2.1 (by decide)
          all_goals omega
        have := made_els (v := v) hm4 (hv1.resolve_left (by omega))
        have := (ok.els (by rw [hv]; exact h2.1)).1
        omega
      · exact hkq
  exact ⟨hvk.there (by omega), this⟩
theorem made_first {c : Cmd} (hc : checkC c = 0) (hm : makes6 c.kind) : OkV (DoV zeroV c).1 ∧ (DoV zeroV c).1.kind = kindM c.kind := by
  obtain ⟨m1, m2, m3, m4, m5⟩ := makes6_ok hm
  obtain ⟨w, r, e1, e2, e3⟩ := noneMade hc m1
  have hvk := (DoV_vk (.inr rfl) hc (by omega)).2
  have e := DoV_zero hc (by omega)
  rw [if_pos m1] at e
  have hkq := doV_kindM (v := ⟨kindOfC c.kind, ⟨#[]⟩, 0, [], [], []⟩) hm (.inr rfl)
  rw [e1] at e hvk ⊢
  simp only at hvk ⊢
  refine ⟨hvk.there e2, ?_⟩
  unfold DoEnd at e
  split at e
  · cases e; exact absurd rfl e2
  · split at e
    · cases e; exact absurd rfl e2
    · cases e; exact hkq
def x1 : Raw := ⟨0, 0, 0, 1, ⟨#[120]⟩⟩
theorem x1_ok : x1.Ok := ⟨by unfold i64; decide, by unfold i64; decide, by unfold i64; decide, by unfold i64; decide⟩
abbrev fullV (kind : Int) (l : List Raw) : Val := valueV kind (x1 :: l)
theorem fold_ok (kind : Int) : ∀ (l : List Raw) (v : Val), (∀ r ∈ l, r.Ok) → OkV v → v.kind = kindM (makerK kind) → OkV (l.foldl (fun v r => stepV v (maker kind r)) v) ∧ (l.foldl (fun v r => stepV v (maker kind r)) v).kind = kindM (makerK kind)
  | [], v, _, h, h2 => ⟨h, h2⟩
  | r :: l, v, hl, h, h2 => by
    have hm := makerK_mem kind
    obtain ⟨m1, m2⟩ := maker_ok kind (hl r (List.mem_cons_self ..))
    have hmk : makes6 (maker kind r).kind := by rw [m2]; exact hm
    obtain ⟨g1, g2⟩ := made_more h m1 hmk (by rw [h2, m2])
    have e := (step_vk (.inl h) m1 (by omega)).2
    refine fold_ok kind l _ (fun x hx => hl x (List.mem_cons_of_mem _ hx)) ?_ ?_
    · show OkV (stepV v (maker kind r)); rw [e]; exact g1
    · show (stepV v (maker kind r)).kind = _; rw [e, g2, m2]
theorem fullV_ok (kind : Int) (l : List Raw) (hl : ∀ r ∈ l, r.Ok) : OkV (fullV kind l) ∧ (fullV kind l).kind = kindM (makerK kind) := by
  have hm := makerK_mem kind
  obtain ⟨m1, m2⟩ := maker_ok kind x1_ok
  obtain ⟨g1, g2⟩ := made_first m1 (by rw [m2]; exact hm)
  have e := (step_vk (.inr rfl) m1 (by omega)).2
  unfold fullV valueV
  rw [List.take_succ_cons, List.foldl_cons, e]
  exact fold_ok kind _ _ (fun r hr => hl r (List.mem_of_mem_take hr)) g1 (by rw [g2, m2])
theorem kindM_maker (kind : Int) : kindM (makerK kind) = 1 + pk kind 6 := by
  have := pk_range (n := kind) (m := 6) (by omega)
  have h : pk kind 6 = 0 ∨ pk kind 6 = 1 ∨ pk kind 6 = 2 ∨ pk kind 6 = 3 ∨ pk kind 6 = 4 ∨ pk kind 6 = 5 := by omega
  unfold makerK
  rcases h with h | h | h | h | h | h <;> rw [h] <;> rfl
theorem raws_ok {l : List Raw} (hl : ∀ r ∈ l, r.Ok) : ∀ r ∈ x1 :: l, r.Ok := fun r hr => by
  rcases List.mem_cons.1 hr with h | h
  · rw [h]; exact x1_ok
  · exact hl r h
end Go.Proofs.Ytcfpphadlgbfdaa
