/- What Do answers. -/
import Derived.Test.YtcfpphadlgbfdaaJ11z
import Derived.Test.YtcfpphadlgbfdaaJ12
import Derived.Test.YtcfpphadlgbfdaaJ9b
set_option linter.unusedVariables false
set_option linter.unusedSimpArgs false
set_option maxRecDepth 100000
set_option maxHeartbeats 8000000
namespace Go.Proofs.Ytcfpphadlgbfdaa
open Go Go.RowKit Go.Proofs.AE
variable {G : Nat → AV}
theorem DoV_zero {c : Cmd} (hc : checkC c = 0) (hk : c.kind ≤ 18) : DoV zeroV c = if makesC c.kind = true then DoEnd zeroV (doV ⟨kindOfC c.kind, ⟨#[]⟩, 0, [], [], []⟩ c) else (zeroV, failR 5, 0) := by
  unfold DoV DoEnd
  rw [zero_none]
  simp only [Bool.true_eq_false, and_false, if_false, true_and, if_true, false_and]
  rw [if_neg (by rw [hc]; simp), if_neg (by omega)]
  cases makesC c.kind with
  | true => simp only [if_true, Bool.true_eq_false, if_false]; rfl
  | false => simp
theorem checkC_kind {c : Cmd} (h : checkC c = 0) : 1 ≤ c.kind := by
  unfold checkC checkCommand at h
  by_cases h1 : c.kind < 1
  · rw [if_pos h1] at h; cases h
  · omega
theorem els_nonneg (v : Val) : 0 ≤ v.els := by unfold Val.els; omega
/-- Whatever a value and a command are: what Do answers. -/
theorem Do_c (v : Val) (c : Cmd) (hs : v.Small) : PCall Try.prog G 7 [.agg v.c, .agg c.c] (DoA (DoV v c)) := by
  by_cases hb : checkV v ≠ 0 ∧ v.isNone = false
  · have e : DoV v c = (zeroV, toldR 0, checkV v) := by unfold DoV; rw [if_pos hb]
    rw [e]; exact doBad_c v c hs hb.1 hb.2
  have hv : checkV v = 0 ∨ v.isNone = true := by
    by_cases h : checkV v = 0
    · exact .inl h
    · right
      cases hn : v.isNone with
      | true => rfl
      | false => exact absurd ⟨h, hn⟩ hb
  by_cases hc : checkC c ≠ 0
  · have e : DoV v c = (zeroV, toldR 0, checkC c) := by unfold DoV; rw [if_neg hb, if_pos hc]
    rw [e]; exact doC_c v c hs hv hc
  have hc0 : checkC c = 0 := Classical.not_not.1 hc
  by_cases hk : 18 < c.kind
  · have e : DoV v c = (zeroV, toldR 0, 3) := by unfold DoV; rw [if_neg hb, if_neg hc, if_pos hk]
    rw [e]; exact doBig_c v c hs hv hc0 hk
  have hk1 := checkC_kind hc0
  have hkk : c.kind = 1 ∨ c.kind = 2 ∨ c.kind = 3 ∨ c.kind = 4 ∨ c.kind = 5 ∨ c.kind = 6 ∨ c.kind = 7 ∨ c.kind = 8 ∨ c.kind = 9 ∨ c.kind = 10 ∨ c.kind = 11 ∨ c.kind = 12 ∨ c.kind = 13 ∨ c.kind = 14 ∨ c.kind = 15 ∨ c.kind = 16 ∨ c.kind = 17 ∨ c.kind = 18 := by omega
  rcases hv with hv | hv
  · have ok := checkV_iff.1 hv
    obtain ⟨k1, k2⟩ := ok.kind
    by_cases hm : (kindOfC c.kind ≠ 0 ∧ kindOfC c.kind ≠ v.kind) ∨ (17 ≤ c.kind ∧ v.kind < 3)
    · rw [DoV_type hv hc0 (by omega) hm]
      exact doType_c v c hk1 (by omega) hs hv hc0 hm
    · rw [DoV_go hv hc0 (by omega) hm]
      have rP := (rising_iff bF_tr).2 ok.riseP
      have rS := (rising_iff bS_tr).2 ok.riseS
      rcases hkk with h | h | h | h | h | h | h | h | h | h | h | h | h | h | h | h | h | h
      · exact doGoP_c v c (by omega) (by omega) hm hs hv hc0 (do1_c v c h hs)
      · exact doGoP_c v c (by omega) (by omega) hm hs hv hc0 (do2_c v c h hs)
      · exact doGoP_c v c (by omega) (by omega) hm hs hv hc0 (do3_c v c h ok.okC (by
          unfold checkC checkCommand at hc0
          cases hn : okCount c.n with
          | true => rfl
          | false => exfalso; rw [hn] at hc0; repeat' split at hc0
                     all_goals simp_all))
      · have hkv : v.kind = 3 := by rw [h] at hm; simp [kindOfC] at hm; omega
        exact doGoO_c v c (by omega) (by omega) (by omega) (by rw [h, hkv]; rfl) hs hv hc0 (do4_c v c h hkv hs (hash_ge rP c.field))
      · have hkv : v.kind = 3 := by rw [h] at hm; simp [kindOfC] at hm; omega
        exact doGoO_c v c (by omega) (by omega) (by omega) (by rw [h, hkv]; rfl) hs hv hc0 (do5_c v c h hkv hs (hash_ge rP c.field))
      · have hkv : v.kind = 3 := by rw [h] at hm; simp [kindOfC] at hm; omega
        exact doGoO_c v c (by omega) (by omega) (by omega) (by rw [h, hkv]; rfl) hs hv hc0 (do6_c v c h hkv hs (hash_ge rP c.field))
      · have hkv : v.kind = 4 := by rw [h] at hm; simp [kindOfC] at hm; omega
        exact doGoO_c v c (by omega) (by omega) (by omega) (by rw [h, hkv]; rfl) hs hv hc0 (do7_c v c h hkv hs)
      · have hkv : v.kind = 4 := by rw [h] at hm; simp [kindOfC] at hm; omega
        exact doGoO_c v c (by omega) (by omega) (by omega) (by rw [h, hkv]; rfl) hs hv hc0 (do8_c v c h hkv hs)
      · have hkv : v.kind = 4 := by rw [h] at hm; simp [kindOfC] at hm; omega
        have h0 : 0 < v.items.length := by
          have := ok.els (by omega)
          unfold Val.els at this
          rw [ok.pairs.resolve_left (by omega), ok.scores.resolve_left (by omega)] at this
          simp at this; omega
        exact doGoP_c v c (by omega) (by omega) hm hs hv hc0 (do9_c v c h hkv hs h0)
      · have hkv : v.kind = 4 := by rw [h] at hm; simp [kindOfC] at hm; omega
        have h0 : 0 < v.items.length := by
          have := ok.els (by omega)
          unfold Val.els at this
          rw [ok.pairs.resolve_left (by omega), ok.scores.resolve_left (by omega)] at this
          simp at this; omega
        exact doGoP_c v c (by omega) (by omega) hm hs hv hc0 (do10_c v c h hkv hs h0)
      · have hkv : v.kind = 5 := by rw [h] at hm; simp [kindOfC] at hm; omega
        exact doGoO_c v c (by omega) (by omega) (by omega) (by rw [h, hkv]; rfl) hs hv hc0 (do11_c v c h hkv hs (set_ge ((rising_iff cmpB_tr).2 (ok.riseI hkv)) c.text))
      · have hkv : v.kind = 5 := by rw [h] at hm; simp [kindOfC] at hm; omega
        exact doGoO_c v c (by omega) (by omega) (by omega) (by rw [h, hkv]; rfl) hs hv hc0 (do12_c v c h hkv hs (set_ge ((rising_iff cmpB_tr).2 (ok.riseI hkv)) c.text))
      · have hkv : v.kind = 5 := by rw [h] at hm; simp [kindOfC] at hm; omega
        exact doGoO_c v c (by omega) (by omega) (by omega) (by rw [h, hkv]; rfl) hs hv hc0 (do13_c v c h hkv hs (set_ge ((rising_iff cmpB_tr).2 (ok.riseI hkv)) c.text))
      · have hkv : v.kind = 6 := by rw [h] at hm; simp [kindOfC] at hm; omega
        exact doGoO_c v c (by omega) (by omega) (by omega) (by rw [h, hkv]; rfl) hs hv hc0 (do14_c v c h hkv hs (rank_ge rS c.text c.n))
      · have hkv : v.kind = 6 := by rw [h] at hm; simp [kindOfC] at hm; omega
        exact doGoO_c v c (by omega) (by omega) (by omega) (by rw [h, hkv]; rfl) hs hv hc0 (do15_c v c h hkv hs (rank_ge rS c.text c.n))
      · have hkv : v.kind = 6 := by rw [h] at hm; simp [kindOfC] at hm; omega
        exact doGoO_c v c (by omega) (by omega) (by omega) (by rw [h, hkv]; rfl) hs hv hc0 (do16_c v c h hkv hs (rank_ge rS c.text c.n))
      · exact doGoP_c v c (by omega) (by omega) hm hs hv hc0 (do17_c v c h hs)
      · exact doGoP_c v c (by omega) (by omega) hm hs hv hc0 (do18_c v c h hs)
  · have := none_zero hv
    subst this
    rw [DoV_zero hc0 (by omega)]
    rcases hkk with h | h | h | h | h | h | h | h | h | h | h | h | h | h | h | h | h | h
    · rw [if_pos (by rw [h]; rfl)]; exact doMakeP_c c (by omega) hc0 (by rw [h]; exact do1_c ⟨0, ⟨#[]⟩, 0, [], [], []⟩ c h zeroV_small)
    · rw [if_neg (by rw [h]; decide)]; exact doZero_c c hk1 (by omega) (by rw [h]; rfl) hc0
    · rw [if_pos (by rw [h]; rfl)]; exact doMakeP_c c (by omega) hc0 (by rw [h]; exact do3_c ⟨2, ⟨#[]⟩, 0, [], [], []⟩ c h (by decide) (by
          unfold checkC checkCommand at hc0
          cases hn : okCount c.n with
          | true => rfl
          | false => exfalso; rw [hn] at hc0; repeat' split at hc0
                     all_goals simp_all))
    · rw [if_pos (by rw [h]; rfl)]; exact doMakeO_c c (by omega) (by omega) (by rw [h]; rfl) (by rw [h]; decide) hc0 (by rw [h]; exact do4_c ⟨3, ⟨#[]⟩, 0, [], [], []⟩ c h rfl zeroV_small (hash_ge rfl c.field))
    · rw [if_neg (by rw [h]; decide)]; exact doZero_c c hk1 (by omega) (by rw [h]; rfl) hc0
    · rw [if_neg (by rw [h]; decide)]; exact doZero_c c hk1 (by omega) (by rw [h]; rfl) hc0
    · rw [if_pos (by rw [h]; rfl)]; exact doMakeO_c c (by omega) (by omega) (by rw [h]; rfl) (by rw [h]; decide) hc0 (by rw [h]; exact do7_c ⟨4, ⟨#[]⟩, 0, [], [], []⟩ c h rfl zeroV_small)
    · rw [if_pos (by rw [h]; rfl)]; exact doMakeO_c c (by omega) (by omega) (by rw [h]; rfl) (by rw [h]; decide) hc0 (by rw [h]; exact do8_c ⟨4, ⟨#[]⟩, 0, [], [], []⟩ c h rfl zeroV_small)
    · rw [if_neg (by rw [h]; decide)]; exact doZero_c c hk1 (by omega) (by rw [h]; rfl) hc0
    · rw [if_neg (by rw [h]; decide)]; exact doZero_c c hk1 (by omega) (by rw [h]; rfl) hc0
    · rw [if_pos (by rw [h]; rfl)]; exact doMakeO_c c (by omega) (by omega) (by rw [h]; rfl) (by rw [h]; decide) hc0 (by rw [h]; exact do11_c ⟨5, ⟨#[]⟩, 0, [], [], []⟩ c h rfl zeroV_small (set_ge rfl c.text))
    · rw [if_neg (by rw [h]; decide)]; exact doZero_c c hk1 (by omega) (by rw [h]; rfl) hc0
    · rw [if_neg (by rw [h]; decide)]; exact doZero_c c hk1 (by omega) (by rw [h]; rfl) hc0
    · rw [if_pos (by rw [h]; rfl)]; exact doMakeO_c c (by omega) (by omega) (by rw [h]; rfl) (by rw [h]; decide) hc0 (by rw [h]; exact do14_c ⟨6, ⟨#[]⟩, 0, [], [], []⟩ c h rfl zeroV_small (rank_ge rfl c.text c.n))
    · rw [if_neg (by rw [h]; decide)]; exact doZero_c c hk1 (by omega) (by rw [h]; rfl) hc0
    · rw [if_neg (by rw [h]; decide)]; exact doZero_c c hk1 (by omega) (by rw [h]; rfl) hc0
    · rw [if_neg (by rw [h]; decide)]; exact doZero_c c hk1 (by omega) (by rw [h]; rfl) hc0
    · rw [if_neg (by rw [h]; decide)]; exact doZero_c c hk1 (by omega) (by rw [h]; rfl) hc0
end Go.Proofs.Ytcfpphadlgbfdaa
