/- What is put anew stays; expire again. -/
import Derived.Test.YtmaiphnabebplaaA10
set_option linter.unusedVariables false
set_option linter.unusedSimpArgs false
set_option maxRecDepth 100000
set_option maxHeartbeats 8000000
namespace Go.Proofs.Ytmaiphnabebplaa
open Go Go.RowKit Go.Proofs.AE
variable {G : Nat → AV}
abbrev nV (n : Int) : Val := ⟨2, ⟨#[]⟩, n, [], [], []⟩
theorem nV_ok {n : Int} (h : okCount n = true) : OkV (nV n) :=
  ⟨⟨(by show (1 : Int) ≤ 2; omega), (by show (2 : Int) ≤ 6; omega)⟩, .inr rfl, .inl rfl, .inr rfl, .inr (.inr rfl), .inr rfl, fun h => absurd h (by show ¬ (3 : Int) ≤ 2; omega), rfl, by simp, by simp, by simp, h, .nil, .nil, fun _ => .nil, .nil⟩
theorem add_none : DoV zeroV (addK aK 1) = (nV 1, toldR 1, 0) := by
  rw [DoV_zero (addK_ok aK_ok rfl) (by show (3 : Int) ≤ 18; omega), if_pos (show makesC _ = true from rfl)]
  have : doV ⟨kindOfC (addK aK 1).kind, ⟨#[]⟩, 0, [], [], []⟩ (addK aK 1) = (nV 1, toldR 1) := by
    unfold doV
    simp [addK, kindOfC, okCount]
  rw [this]
  exact DoEnd_some rfl (fun h => absurd h.1 (by show ¬ (3 : Int) ≤ 2; omega))
theorem add_one : DoV (nV 1) (addK aK 1) = (nV 2, toldR 2, 0) := by
  rw [DoV_go (checkV_iff.2 (nV_ok rfl)) (addK_ok aK_ok rfl) (by show (3 : Int) ≤ 18; omega) (by simp [addK, kindOfC])]
  have : doV (nV 1) (addK aK 1) = (nV 2, toldR 2) := by
    unfold doV
    simp [addK, okCount]
  rw [this]
  exact DoEnd_some rfl (fun h => absurd h.1 (by show ¬ (3 : Int) ≤ 2; omega))
def pushK (k t : ByteArray) : Cmd := ⟨7, k, ⟨#[]⟩, t, 0⟩
theorem pushK_ok {k t : ByteArray} (h : okField k = true) (ht : okText t = true) : checkC (pushK k t) = 0 := form_plain (by omega) (by omega) (.inr ⟨by omega, h⟩) (.inr ⟨by omega, rfl⟩) (.inl ⟨ht, by omega⟩) (.inr rfl)
theorem push_none : DoV zeroV (pushK aK xS) = (⟨4, ⟨#[]⟩, 0, [], [xS], []⟩, toldR 1, 0) := by
  rw [DoV_zero (pushK_ok aK_ok rfl) (by show (7 : Int) ≤ 18; omega), if_pos (show makesC _ = true from rfl)]
  have : doV ⟨kindOfC (pushK aK xS).kind, ⟨#[]⟩, 0, [], [], []⟩ (pushK aK xS) = (⟨4, ⟨#[]⟩, 0, [], [xS], []⟩, toldR 1) := by
    unfold doV listV
    simp [pushK, kindOfC]
  rw [this]
  exact DoEnd_some rfl (fun h => by have := h.2; unfold Val.els at this; simp at this)
theorem rise_nil : Rise [] := .nil
/-- What is put anew stays for ever. -/
theorem put_stays {k : Int} (k1 : 1 ≤ k) (k2 : k ≤ 1000) :
    ∃ l1 l2 l3 l4, ApplyS zeroS 0 (addK aK 1) = (⟨0, l1⟩, toldR 1, 0) ∧ OkS ⟨0, l1⟩ ∧ ApplyS ⟨0, l1⟩ 0 (expC aK k) = (⟨0, l2⟩, toldR 0, 0) ∧ OkS ⟨0, l2⟩ ∧
      ApplyS ⟨0, l2⟩ 0 (addK aK 1) = (⟨0, l3⟩, toldR 2, 0) ∧ OkS ⟨0, l3⟩ ∧ l3.length = 1 ∧ ApplyS ⟨0, l2⟩ 0 (putK aK ⟨#[]⟩) = (⟨0, l4⟩, toldR 0, 0) ∧ OkS ⟨0, l4⟩ ∧ l4.length = 1 ∧
      (∃ l5 r, ApplyS ⟨0, l3⟩ k keysC = (⟨k, l5⟩, r, 0) ∧ OkS ⟨k, l5⟩ ∧ getE l5 aK = none) ∧ ∃ l6 r e, ApplyS ⟨0, l4⟩ k keysC = (⟨k, l6⟩, r, 0) ∧ OkS ⟨k, l6⟩ ∧ getE l6 aK = some e := by
  have ck : okCount k = true := by unfold okCount; simp; omega
  obtain ⟨e1, ok1⟩ := apply_nowT okT_zero (addK_ok aK_ok (n := 1) rfl) (.inr aK_nine)
  obtain ⟨d1, r1⟩ := doE_made rise_nil 0 (c := addK aK 1) (by show (3 : Int) ≤ 18; omega) add_none rfl (by show (2 : Int) ≠ 0; omega) (.inr (by decide))
  have z : zeroS.now = 0 ∧ zeroS.ents = [] := ⟨rfl, rfl⟩
  rw [z.1, z.2, r1] at e1
  rw [z.1, z.2] at ok1
  obtain ⟨l1, hl1⟩ : ∃ l1, (doE 0 [] (addK aK 1)).1 = l1 := ⟨_, rfl⟩
  rw [hl1] at e1 ok1 d1
  have n1 : l1.length = 1 := d1.len
  obtain ⟨e2, ok2⟩ := apply_nowT ok1 (expC_ok aK_ok ck) (.inr aK_nine)
  obtain ⟨r2, d2⟩ := (doE_exp d1.rise 0 k aK k1 (by omega)).2 _ d1.here
  simp only at e2 ok2
  rw [r2] at e2
  obtain ⟨l2, hl2⟩ : ∃ l2, (doE 0 l1 (expC aK k)).1 = l2 := ⟨_, rfl⟩
  rw [hl2] at e2 ok2 d2
  have g1 : getE l1 aK = some (putE [] (addK aK 1) (nV 1)) := d1.here
  have n2 : l2.length = 1 := by have := d2.len; rw [g1] at this; simpa [n1] using this
  have g2 : getE l2 aK = some ⟨aK, nV 1, 0 + k⟩ := d2.here
  obtain ⟨e3, ok3⟩ := apply_nowT ok2 (addK_ok aK_ok (n := 1) rfl) (.inr aK_nine)
  obtain ⟨d3, r3⟩ := doE_made d2.rise 0 (c := addK aK 1) (v := nV 2) (r := toldR 2) (by show (3 : Int) ≤ 18; omega) (by show DoV (((getE l2 aK).map Ent.val).getD zeroV) (addK aK 1) = _; rw [g2]; exact add_one) rfl (by show (2 : Int) ≠ 0; omega) (.inr (by omega))
  simp only at e3 ok3
  rw [r3] at e3
  obtain ⟨l3, hl3⟩ : ∃ l3, (doE 0 l2 (addK aK 1)).1 = l3 := ⟨_, rfl⟩
  rw [hl3] at e3 ok3 d3
  have n3 : l3.length = 1 := by have := d3.len; rw [show (addK aK 1).key = aK from rfl, g2] at this; simpa [n2] using this
  have g3 : getE l3 aK = some ⟨aK, nV 2, 0 + k⟩ := by
    have := d3.here
    unfold putE at this
    rw [show (addK aK 1).key = aK from rfl, g2] at this
    simpa [addK] using this
  obtain ⟨e4, ok4⟩ := apply_nowT ok2 (putK_ok aK_ok (t := ⟨#[]⟩) rfl) (.inr aK_nine)
  obtain ⟨d4, r4⟩ := doE_put d2.rise (fun e he => (ok2.ok.all e he).val) (by omega) 0 (k := aK) (t := ⟨#[]⟩) aK_ok rfl
  simp only at e4 ok4
  rw [r4] at e4
  obtain ⟨l4, hl4⟩ : ∃ l4, (doE 0 l2 (putK aK ⟨#[]⟩)).1 = l4 := ⟨_, rfl⟩
  rw [hl4] at e4 ok4 d4
  have n4 : l4.length = 1 := by have := d4.len; rw [g2] at this; simpa [n2] using this
  refine ⟨l1, l2, l3, l4, e1, ok1.ok, e2, ok2.ok, e3, ok3.ok, n3, e4, ok4.ok, n4, ?_, ?_⟩
  · obtain ⟨e5, ok5⟩ := apply_later ok3.ok (w := k) (by omega) (by show 0 + k ≤ 1073741824; omega) keysC_ok
    rw [doE_keys] at e5 ok5
    simp only [Int.zero_add] at e5 ok5
    refine ⟨_, _, e5, ok5, ?_⟩
    unfold aliveS
    rw [getE_filter d3.rise, g3]
    have : goneE k ⟨aK, nV 2, k⟩ = true := by unfold goneE; simp; omega
    simp [this]
  · obtain ⟨e5, ok5⟩ := apply_later ok4.ok (w := k) (by omega) (by show 0 + k ≤ 1073741824; omega) keysC_ok
    rw [doE_keys] at e5 ok5
    simp only [Int.zero_add] at e5 ok5
    refine ⟨_, _, ⟨aK, tV ⟨#[]⟩, 0⟩, e5, ok5, ?_⟩
    unfold aliveS
    rw [getE_filter d4.rise, d4.here]
    have : goneE k ⟨aK, tV ⟨#[]⟩, 0⟩ = false := by unfold goneE; simp
    simp [this]
/-- The last word on how long a key is there counts. -/
theorem expire_again {a b : Int} (a1 : 1 ≤ a) (a2 : a ≤ 1000) (b1 : 1 ≤ b) (b2 : b ≤ 1000) :
    ∃ l1 l2 l3, ApplyS zeroS 5 (pushK aK xS) = (⟨5, l1⟩, toldR 1, 0) ∧ OkS ⟨5, l1⟩ ∧ (∃ l, ApplyS ⟨5, l1⟩ 5 (lifeC aK) = (⟨5, l⟩, toldR 0, 0) ∧ OkS ⟨5, l⟩) ∧ ApplyS ⟨5, l1⟩ 5 (expC aK a) = (⟨5, l2⟩, toldR 0, 0) ∧ OkS ⟨5, l2⟩ ∧
      ApplyS ⟨5, l2⟩ 5 (expC aK b) = (⟨5, l3⟩, toldR 0, 0) ∧ OkS ⟨5, l3⟩ ∧ (∃ l, ApplyS ⟨5, l3⟩ 5 (lifeC aK) = (⟨5, l⟩, toldR b, 0) ∧ OkS ⟨5, l⟩) ∧
      (∃ l r, ApplyS ⟨5, l3⟩ (4 + b) keysC = (⟨4 + b, l⟩, r, 0) ∧ OkS ⟨4 + b, l⟩ ∧ l.length = 1) ∧ ∃ l r, ApplyS ⟨5, l3⟩ (5 + b) keysC = (⟨5 + b, l⟩, r, 0) ∧ OkS ⟨5 + b, l⟩ ∧ l.length = 0 := by
  have ca : okCount a = true := by unfold okCount; simp; omega
  have cb : okCount b = true := by unfold okCount; simp; omega
  obtain ⟨e1, ok1⟩ := apply_later okS_zero (w := 5) (by omega) (by show (0 : Int) + 5 ≤ 1073741824; omega) (pushK_ok aK_ok (t := xS) rfl)
  have hz : aliveS (zeroS.now + 5) zeroS = [] := rfl
  have z5 : zeroS.now + 5 = 5 := rfl
  rw [hz, z5] at e1 ok1
  obtain ⟨d1, r1⟩ := doE_made rise_nil 5 (c := pushK aK xS) (by show (7 : Int) ≤ 18; omega) push_none rfl (by show (4 : Int) ≠ 0; omega) (.inr (by decide))
  rw [r1] at e1
  obtain ⟨l1, hl1⟩ : ∃ l1, (doE 5 [] (pushK aK xS)).1 = l1 := ⟨_, rfl⟩
  rw [hl1] at e1 ok1 d1
  have n1 : l1.length = 1 := d1.len
  have g1 : getE l1 aK = some ⟨aK, ⟨4, ⟨#[]⟩, 0, [], [xS], []⟩, 0⟩ := d1.here
  obtain ⟨f1, okf1⟩ := apply_now ok1 (lifeC_ok aK_ok)
  simp only at f1 okf1
  rw [doE_life d1.rise, g1] at f1 okf1
  obtain ⟨e2, ok2⟩ := apply_now ok1 (expC_ok aK_ok ca)
  obtain ⟨r2, d2⟩ := (doE_exp d1.rise 5 a aK a1 (by omega)).2 _ g1
  simp only at e2 ok2
  rw [r2] at e2
  obtain ⟨l2, hl2⟩ : ∃ l2, (doE 5 l1 (expC aK a)).1 = l2 := ⟨_, rfl⟩
  rw [hl2] at e2 ok2 d2
  have n2 : l2.length = 1 := by have := d2.len; rw [g1] at this; simpa [n1] using this
  obtain ⟨e3, ok3⟩ := apply_now ok2 (expC_ok aK_ok cb)
  obtain ⟨r3, d3⟩ := (doE_exp d2.rise 5 b aK b1 (by omega)).2 _ d2.here
  simp only at e3 ok3
  rw [r3] at e3
  obtain ⟨l3, hl3⟩ : ∃ l3, (doE 5 l2 (expC aK b)).1 = l3 := ⟨_, rfl⟩
  rw [hl3] at e3 ok3 d3
  have n3 : l3.length = 1 := by have := d3.len; rw [d2.here] at this; simpa [n2] using this
  have g3 := d3.here
  obtain ⟨f3, okf3⟩ := apply_now ok3 (lifeC_ok aK_ok)
  simp only at f3 okf3
  rw [doE_life d3.rise, g3] at f3 okf3
  have hb : (if (5 : Int) + b - 5 < 0 then 0 else 5 + b - 5) = b := by rw [if_neg (by omega)]; omega
  simp only [hb] at f3 okf3
  -- one entry, that runs out
  obtain ⟨x, rfl⟩ : ∃ x, l3 = [x] := by
    match l3, n3 with
    | [x], _ => exact ⟨x, rfl⟩
  have hx : x = ⟨aK, ⟨4, ⟨#[]⟩, 0, [], [xS], []⟩, 5 + b⟩ := by
    have hm := (getE_mem g3).1
    simp only [List.mem_singleton] at hm
    exact hm.symm
  obtain ⟨e5, ok5⟩ := apply_later ok3 (w := b - 1) (by omega) (by show 5 + (b - 1) ≤ 1073741824; omega) keysC_ok
  obtain ⟨e6, ok6⟩ := apply_later ok3 (w := b) (by omega) (by show 5 + b ≤ 1073741824; omega) keysC_ok
  rw [doE_keys] at e5 ok5 e6 ok6
  have w5 : (5 : Int) + (b - 1) = 4 + b := by omega
  simp only [w5] at e5 ok5
  simp only at e6 ok6
  refine ⟨l1, l2, [x], e1, ok1, ⟨_, f1, okf1⟩, e2, ok2, e3, ok3, ⟨_, f3, okf3⟩, ⟨_, _, e5, ok5, ?_⟩, ⟨_, _, e6, ok6, ?_⟩⟩
  · unfold aliveS
    have : goneE (4 + b) x = false := by rw [hx]; unfold goneE; simp <;> omega
    simp [this]
  · unfold aliveS
    have : goneE (5 + b) x = true := by rw [hx]; unfold goneE; simp <;> omega
    simp [this]
end Go.Proofs.Ytmaiphnabebplaa
