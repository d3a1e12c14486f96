/- The functions PutGet, CommandBare and LastGone answer true. -/
import Derived.Test.YtcfpphadlgbfdaaL2
set_option linter.unusedVariables false
set_option linter.unusedSimpArgs false
set_option maxRecDepth 100000
set_option maxHeartbeats 8000000
namespace Go.Proofs.Ytcfpphadlgbfdaa
open Go Go.RowKit Go.Proofs.AE
variable {G : Nat → AV}


abbrev kS : ByteArray := ⟨#[107]⟩
abbrev eS : ByteArray := ⟨#[]⟩
abbrev fS : ByteArray := ⟨#[102]⟩
theorem kS_ok : okField kS = true ∧ okField fS = true ∧ okText eS = true ∧ okField eS = false ∧ okCount 0 = true ∧ okCount 3 = true ∧ okText kS = true := ⟨rfl, rfl, rfl, rfl, rfl, rfl, rfl⟩
theorem cut_ok (s : ByteArray) {n : Int} (h0 : 0 ≤ n) (h : n ≤ 20) : okText (cutS s n) = true := by
  have := cutS_size s h0
  simp only [okText, decide_eq_true_eq]; omega
/-- Commands with the key k. -/
theorem cmd_form {k : Int} {f t : ByteArray} {n : Int} (h1 : 1 ≤ k) (h2 : k ≤ 21) (hf : (k = 4 ∨ k = 5 ∨ k = 6) ∧ okField f = true ∨ ¬ (k = 4 ∨ k = 5 ∨ k = 6) ∧ f = eS)
    (ht : okText t = true ∧ (k = 1 ∨ k = 4 ∨ k = 7 ∨ k = 8 ∨ k = 11 ∨ k = 12 ∨ k = 13 ∨ k = 14 ∨ k = 15 ∨ k = 16) ∨ t = eS) (hn : okCount n = true ∧ (k = 3 ∨ k = 14 ∨ k = 20) ∨ n = 0) : checkC ⟨k, kS, f, t, n⟩ = 0 := by
  have ht' : okText t = true := by rcases ht with h | h; exact h.1; rw [h]; rfl
  have hn' : okCount n = true := by rcases hn with h | h; exact h.1; rw [h]; rfl
  have hform : formOk k kS f t n = true := by
    unfold formOk
    have a1 : (k != 22) = true := by simp; omega
    have a2 : ((k == 4 || k == 5 || k == 6) || decide (f = eS)) = true := by
      rcases hf with h | h
      · rcases h.1 with e | e | e <;> simp [e]
      · simp [h.2]
    have a3 : ((k == 1 || k == 4 || k == 7 || k == 8 || k == 11 || k == 12 || k == 13 || k == 14 || k == 15 || k == 16) || decide (t = eS)) = true := by
      rcases ht with h | h
      · rcases h.2 with e | e | e | e | e | e | e | e | e | e <;> simp [e]
      · simp [h]
    have a4 : ((k == 3 || k == 14 || k == 20) || n == 0) = true := by
      rcases hn with h | h
      · rcases h.2 with e | e | e <;> simp [e]
      · simp [h]
    rw [a1, a2, a3, a4]; rfl
  unfold checkC checkCommand
  simp only
  rw [if_neg (by omega), if_neg (by omega), if_neg (by rw [hform]; simp)]
  have b : ((k != 22 && !okField kS || ((k == 4 || k == 5 || k == 6) && !okField f)) || !okText t) = false := by
    rw [kS_ok.1, ht']
    rcases hf with h | h
    · rw [h.2]; simp
    · have : (k == 4 || k == 5 || k == 6) = false := by
        have := h.1
        simp; omega
      rw [this]; simp
  rw [b, hn']
  simp
def putC (t : ByteArray) : Cmd := ⟨1, kS, eS, t, 0⟩
def getC : Cmd := ⟨2, kS, eS, eS, 0⟩
def putV (t : ByteArray) : Val := ⟨1, t, 0, [], [], []⟩
theorem putC_ok {t : ByteArray} (h : okText t = true) : checkC (putC t) = 0 := cmd_form (by omega) (by omega) (.inr ⟨by omega, rfl⟩) (.inl ⟨h, .inl rfl⟩) (.inr rfl)
theorem getC_ok : checkC getC = 0 := cmd_form (by omega) (by omega) (.inr ⟨by omega, rfl⟩) (.inr rfl) (.inr rfl)
theorem put_any {v : Val} {t : ByteArray} (h : Vk v) (ht : okText t = true) : DoV v (putC t) = (putV t, toldR 0, 0) := by
  have hd : ∀ v, doV v (putC t) = (putV t, toldR 0) := fun v => by unfold doV; simp [putC, putV]
  rcases h with h | h
  · rw [DoV_go (checkV_iff.2 h) (putC_ok ht) (by show (1 : Int) ≤ 18; omega) (by simp [putC, kindOfC]), hd]
    exact DoEnd_some rfl (fun h => absurd h.1 (by show ¬ (3 : Int) ≤ 1; omega))
  · rw [h, DoV_zero (putC_ok ht) (by show (1 : Int) ≤ 18; omega), if_pos (show makesC _ = true from rfl), hd]
    exact DoEnd_some rfl (fun h => absurd h.1 (by show ¬ (3 : Int) ≤ 1; omega))
theorem putV_ok {t : ByteArray} (h : okText t = true) : OkV (putV t) :=
  ⟨⟨(by show (1 : Int) ≤ 1; omega), (by show (1 : Int) ≤ 6; omega)⟩, .inl rfl, .inr rfl, .inr rfl, .inr (.inr rfl), .inr rfl, fun h => absurd h (by show ¬ (3 : Int) ≤ 1; omega), h, by simp [putV], by simp [putV], by simp [putV], rfl, .nil, .nil, fun _ => .nil, .nil⟩
theorem get_put {t : ByteArray} (ht : okText t = true) : DoV (putV t) getC = (putV t, textR t, 0) := by
  rw [DoV_go (checkV_iff.2 (putV_ok ht)) getC_ok (by show (2 : Int) ≤ 18; omega) (by simp [getC, putV, kindOfC])]
  have : doV (putV t) getC = (putV t, textR t) := by unfold doV; simp [getC, putV]
  rw [this]
  exact DoEnd_some rfl (fun h => absurd h.1 (by show ¬ (3 : Int) ≤ 1; omega))
theorem bareC (c : Cmd) (h : checkC c = 8) : DoV zeroV c = (zeroV, toldR 0, 8) := by
  unfold DoV
  rw [zero_none]
  simp only [Bool.true_eq_false, and_false, if_false]
  rw [if_pos (by rw [h]; simp), h]
end Go.Proofs.Ytcfpphadlgbfdaa
