/- What is put and runs out; what is deleted. -/
import Derived.Test.YtmaiphnabebplaaA9
set_option linter.unusedVariables false
set_option linter.unusedSimpArgs false
set_option maxRecDepth 100000
set_option maxHeartbeats 8000000
namespace Go.Proofs.Ytmaiphnabebplaa
open Go Go.RowKit Go.Proofs.AE
variable {G : Nat → AV}
theorem get_val {k t : ByteArray} (hk : okField k = true) (ht : okText t = true) : DoV (tV t) (getK k) = (tV t, textR t, 0) := by
  have hd : doV (tV t) (getK k) = (tV t, textR t) := by unfold doV; simp [getK]
  rw [DoV_go (checkV_iff.2 (tV_ok ht)) (getK_ok hk) (by show (2 : Int) ≤ 18; omega) (by simp [getK, kindOfC]), hd]
  exact DoEnd_some rfl (fun h => absurd h.1 (by show ¬ (3 : Int) ≤ 1; omega))
theorem none_val {c : Cmd} (hc : checkC c = 0) (hk : c.kind ≤ 18) (hm : makesC c.kind = false) : DoV zeroV c = (zeroV, failR 5, 0) := by
  rw [DoV_zero hc hk, hm]; rfl
theorem doE_none {l : List Ent} (hr : Rise l) (now : Int) {c : Cmd} (hc : checkC c = 0) (hk : c.kind ≤ 18) (hm : makesC c.kind = false) (hg : getE l c.key = none) : doE now l c = (l, failR 5) := by
  rw [doE_val now hk]
  unfold valE
  rw [oldV_get hr, hg]
  have h := none_val hc hk hm
  show (if (DoV zeroV c).2.1.code ≠ 0 then _ else _) = _
  rw [h, if_pos (by show (5 : Int) ≠ 0; omega)]
  show (l, (DoV zeroV c).2.1) = _
  rw [h]
theorem doE_get {l : List Ent} (hr : Rise l) (now : Int) {k t : ByteArray} {n : Int} (hk : okField k = true) (ht : okText t = true) (hg : getE l k = some ⟨k, tV t, n⟩) :
    (doE now l (getK k)).2 = textR t ∧ Did l k (some ⟨k, tV t, n⟩) (doE now l (getK k)).1 := by
  rw [doE_val now (by show (2 : Int) ≤ 18; omega)]
  obtain ⟨hd, hr2⟩ := valE_spec hr (getK k)
  have ek : (getK k).key = k := rfl
  rw [ek, hg] at hd hr2
  have hdv := get_val hk ht
  have h1 : newV l (getK k) = tV t := by unfold newV; rw [ek, hg]; exact congrArg (·.1) hdv
  have h2 : newR l (getK k) = textR t := by unfold newR; rw [ek, hg]; exact congrArg (fun q => q.2.1) hdv
  rw [h1, h2] at hd hr2
  have c1 : ¬ (textR t).code ≠ 0 := fun h => h rfl
  have e1 : (tV t).kind = 1 := rfl
  rw [if_neg c1, e1, if_neg (by omega), if_neg (by simp)] at hr2
  rw [if_neg c1, e1, if_neg (by omega), if_neg (by simp), if_pos (by omega)] at hd
  have hp : putE l (getK k) (tV t) = ⟨k, tV t, n⟩ := by
    unfold putE
    rw [ek, hg]
    simp [getK]
  rw [hp] at hd
  exact ⟨hr2, hd⟩
abbrev xS : ByteArray := ⟨#[120]⟩
/-- What is put and runs out. -/
theorem expire_p {s : Sto} (h : OkT s) (hnow : s.now ≤ 1000) {k w : Int} (k1 : 1 ≤ k) (k2 : k ≤ 1000) (w0 : 0 ≤ w) (w1 : w ≤ 1000) :
    ∃ l1 l2, ApplyS s s.now (putK aK xS) = (⟨s.now, l1⟩, toldR 0, 0) ∧ OkS ⟨s.now, l1⟩ ∧ ApplyS ⟨s.now, l1⟩ s.now (expC aK k) = (⟨s.now, l2⟩, toldR 0, 0) ∧ OkS ⟨s.now, l2⟩ ∧
      (k ≤ w → ∃ l3, ApplyS ⟨s.now, l2⟩ (s.now + w) (getK aK) = (⟨s.now + w, l3⟩, failR 5, 0) ∧ OkS ⟨s.now + w, l3⟩ ∧ ApplyS ⟨s.now, l2⟩ (s.now + w) (lifeC aK) = (⟨s.now + w, l3⟩, failR 5, 0) ∧ getE l3 aK = none) ∧
      (w < k → ∃ l3 l4, ApplyS ⟨s.now, l2⟩ (s.now + w) (getK aK) = (⟨s.now + w, l3⟩, textR xS, 0) ∧ OkS ⟨s.now + w, l3⟩ ∧ ApplyS ⟨s.now, l2⟩ (s.now + w) (lifeC aK) = (⟨s.now + w, l4⟩, toldR (k - w), 0) ∧ OkS ⟨s.now + w, l4⟩ ∧ ∃ e, getE l3 aK = some e) := by
  have hn := h.ok.now
  have ck : okCount k = true := by unfold okCount; simp; omega
  obtain ⟨e1, ok1⟩ := apply_nowT h (putK_ok aK_ok (t := xS) rfl) (.inr aK_nine)
  obtain ⟨d1, r1⟩ := doE_put h.ok.rise (fun e he => (h.ok.all e he).val) (ne12 h) s.now (k := aK) (t := xS) aK_ok rfl
  rw [r1] at e1
  obtain ⟨l1, hl1⟩ : ∃ l1, (doE s.now s.ents (putK aK xS)).1 = l1 := ⟨_, rfl⟩
  rw [hl1] at e1 ok1 d1
  obtain ⟨e2, ok2⟩ := apply_nowT ok1 (expC_ok aK_ok ck) (.inr aK_nine)
  obtain ⟨r2, d2⟩ := (doE_exp d1.rise s.now k aK k1 (by omega)).2 _ d1.here
  simp only at e2
  rw [r2] at e2
  obtain ⟨l2, hl2⟩ : ∃ l2, (doE s.now l1 (expC aK k)).1 = l2 := ⟨_, rfl⟩
  simp only at ok2
  rw [hl2] at e2 ok2 d2
  refine ⟨l1, l2, e1, ok1.ok, e2, ok2.ok, fun hkw => ?_, fun hkw => ?_⟩
  · obtain ⟨e3, ok3⟩ := apply_later ok2.ok (w := w) w0 (by show s.now + w ≤ 1073741824; omega) (getK_ok aK_ok)
    obtain ⟨e4, ok4⟩ := apply_later ok2.ok (w := w) w0 (by show s.now + w ≤ 1073741824; omega) (lifeC_ok aK_ok)
    obtain ⟨a1, a2, a3⟩ := alive_ok ok2.ok (now := s.now + w) (by show s.now ≤ s.now + w; omega)
    have hg : getE (aliveS (s.now + w) ⟨s.now, l2⟩) aK = none := by
      unfold aliveS
      rw [getE_filter d2.rise, d2.here]
      have : goneE (s.now + w) ⟨aK, tV xS, s.now + k⟩ = true := by unfold goneE; simp; omega
      simp [this]
    rw [doE_none a1 _ (getK_ok aK_ok) (by show (2 : Int) ≤ 18; omega) rfl hg] at e3 ok3
    have hl := doE_life a1 (s.now + w) aK
    rw [hg] at hl
    simp only at hl e4
    rw [hl] at e4
    exact ⟨_, e3, ok3, e4, hg⟩
  · obtain ⟨e3, ok3⟩ := apply_later ok2.ok (w := w) w0 (by show s.now + w ≤ 1073741824; omega) (getK_ok aK_ok)
    obtain ⟨e4, ok4⟩ := apply_later ok2.ok (w := w) w0 (by show s.now + w ≤ 1073741824; omega) (lifeC_ok aK_ok)
    obtain ⟨a1, a2, a3⟩ := alive_ok ok2.ok (now := s.now + w) (by show s.now ≤ s.now + w; omega)
    have hg : getE (aliveS (s.now + w) ⟨s.now, l2⟩) aK = some ⟨aK, tV xS, s.now + k⟩ := by
      unfold aliveS
      rw [getE_filter d2.rise, d2.here]
      have : goneE (s.now + w) ⟨aK, tV xS, s.now + k⟩ = false := by unfold goneE; simp; omega
      simp [this]
    obtain ⟨r3, d3⟩ := doE_get a1 (s.now + w) aK_ok (t := xS) rfl hg
    simp only at e3 ok3
    rw [r3] at e3
    have hl := doE_life a1 (s.now + w) aK
    rw [hg] at hl
    simp only at hl e4 ok4
    rw [hl] at e4 ok4
    have hkw2 : (if s.now + k - (s.now + w) < 0 then 0 else s.now + k - (s.now + w)) = k - w := by rw [if_neg (by omega)]; omega
    rw [hkw2] at e4
    exact ⟨_, _, e3, ok3, e4, ok4, ⟨_, d3.here⟩⟩
/-- What is deleted is gone. -/
theorem delete_p {s : Sto} (h : OkT s) {k : ByteArray} (hk : okField k = true) (hn : k ∈ nine) :
    ∃ l1, ApplyS s s.now (delC k) = (⟨s.now, l1⟩, toldR (flagN (getE s.ents k).isSome), 0) ∧ OkS ⟨s.now, l1⟩ ∧ ApplyS ⟨s.now, l1⟩ s.now (delC k) = (⟨s.now, l1⟩, toldR 0, 0) ∧ ApplyS ⟨s.now, l1⟩ s.now (allK k) = (⟨s.now, l1⟩, failR 5, 0) := by
  obtain ⟨e1, ok1⟩ := apply_nowT h (delC_ok hk) (.inr hn)
  obtain ⟨d1, r1, _⟩ := doE_del h.ok.rise s.now k
  rw [r1] at e1
  obtain ⟨l1, hl1⟩ : ∃ l1, (doE s.now s.ents (delC k)).1 = l1 := ⟨_, rfl⟩
  rw [hl1] at e1 ok1 d1
  obtain ⟨e2, _⟩ := apply_nowT ok1 (delC_ok hk) (.inr hn)
  obtain ⟨d2, r2, n2⟩ := doE_del d1.rise s.now k
  obtain ⟨e3, _⟩ := apply_nowT ok1 (allK_ok hk) (.inr hn)
  simp only at e2 e3
  rw [r2, n2 d1.here, d1.here] at e2
  rw [doE_none d1.rise s.now (allK_ok hk) (by show (18 : Int) ≤ 18; omega) rfl d1.here] at e3
  exact ⟨l1, e1, ok1.ok, e2, e3⟩
end Go.Proofs.Ytmaiphnabebplaa
