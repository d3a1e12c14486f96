/- The functions ValueMay, LenAll and TypeTold answer true. -/
import Derived.Test.YtcfpphadlgbfdaaL5
set_option linter.unusedVariables false
set_option linter.unusedSimpArgs false
set_option maxRecDepth 100000
set_option maxHeartbeats 8000000
namespace Go.Proofs.Ytcfpphadlgbfdaa
open Go Go.RowKit Go.Proofs.AE
variable {G : Nat → AV}



theorem pw_nextS {α : Type} {R : α → α → Prop} {l : List α} (h : l.Pairwise R) {i : Nat} {x y : α} (hx : l[i]? = some x) (hy : l[i + 1]? = some y) : R x y := by
  obtain ⟨a, rfl⟩ := List.getElem?_eq_some_iff.1 hx
  obtain ⟨b, rfl⟩ := List.getElem?_eq_some_iff.1 hy
  exact List.pairwise_iff_getElem.1 h i (i + 1) a b (by omega)
theorem doV_big {v : Val} {c : Cmd} (ok : OkV v) (hc : checkC c = 0) (hk : 18 < c.kind) : DoV v c = (zeroV, toldR 0, 3) := by
  have h := checkV_iff.2 ok
  have hn := none_kind (kind_ok h).1
  unfold DoV
  rw [hn]
  simp only [Bool.false_eq_true, if_false, false_and, true_and]
  rw [if_neg (by rw [h]; simp), if_neg (by rw [hc]; simp), if_pos hk]
theorem full2_kind (kind : Int) (l : List Raw) (hl : ∀ r ∈ l, r.Ok) : OkV (fullV (2 + pk kind 4) l) ∧ (fullV (2 + pk kind 4) l).kind = 3 + pk kind 4 := by
  obtain ⟨h1, h2⟩ := fullV_ok (2 + pk kind 4) l hl
  have := pk_range (n := kind) (m := 4) (by omega)
  rw [kindM_maker, pk_small (k := 2 + pk kind 4) (by omega) (by omega)] at h2
  exact ⟨h1, by omega⟩
def lenC : Cmd := ⟨17, kS, eS, eS, 0⟩
def allC : Cmd := ⟨18, kS, eS, eS, 0⟩
theorem lenC_ok : checkC lenC = 0 := cmd_form (by omega) (by omega) (.inr ⟨by omega, rfl⟩) (.inr rfl) (.inr rfl)
theorem allC_ok : checkC allC = 0 := cmd_form (by omega) (by omega) (.inr ⟨by omega, rfl⟩) (.inr rfl) (.inr rfl)
theorem len_done {v : Val} (ok : OkV v) (h3 : 3 ≤ v.kind) : DoV v lenC = (v, toldR v.els, 0) := by
  rw [DoV_go (checkV_iff.2 ok) lenC_ok (by show (17 : Int) ≤ 18; omega) (by
    rintro (h | h)
    · exact h.1 rfl
    · omega)]
  have : doV v lenC = (v, toldR v.els) := by unfold doV; simp [lenC]
  rw [this]
  exact DoEnd_some rfl (fun h => by have := h.2; have := (ok.els h3).1; simp only at *; omega)
theorem all_done {v : Val} (ok : OkV v) (h3 : 3 ≤ v.kind) : DoV v allC = (v, ⟨0, ⟨#[]⟩, 0, allV v⟩, 0) := by
  rw [DoV_go (checkV_iff.2 ok) allC_ok (by show (18 : Int) ≤ 18; omega) (by
    rintro (h | h)
    · exact h.1 rfl
    · omega)]
  have : doV v allC = (v, ⟨0, ⟨#[]⟩, 0, allV v⟩) := by unfold doV; simp [allC]
  rw [this]
  exact DoEnd_some rfl (fun h => by have := h.2; have := (ok.els h3).1; simp only at *; omega)
theorem allV_len (v : Val) : ((allV v).length : Int) = v.els := by unfold allV Val.els; simp; omega
/-- What is refused leaves all as it was, and says no more. -/
def Good (r : Rep) : Prop := r.code = 0 ∨ ∃ e, r = failR e ∧ e ≠ 0 ∧ e ≠ 4
theorem good0 {r : Rep} (h : r.code = 0) : Good r := .inl h
theorem good5 : Good (failR 5) := .inr ⟨5, rfl, by decide, by decide⟩
theorem good6 : Good (failR 6) := .inr ⟨6, rfl, by decide, by decide⟩
theorem good7 : Good (failR 7) := .inr ⟨7, rfl, by decide, by decide⟩
theorem hashV_good (l : List Pr) (c : Cmd) : Good (hashV l c).2 := by
  unfold hashV
  simp only
  repeat' split
  all_goals first | exact good5 | exact good6 | exact good0 rfl
theorem listV_good (l : List ByteArray) (c : Cmd) : Good (listV l c).2 := by
  unfold listV
  repeat' split
  all_goals first | exact good6 | exact good0 rfl
theorem setV_good (l : List ByteArray) (c : Cmd) : Good (setV l c).2 := by
  unfold setV
  simp only
  repeat' split
  all_goals first | exact good6 | exact good0 rfl
theorem ranksV_good (l : List Sc) (c : Cmd) : Good (ranksV l c).2 := by
  unfold ranksV
  simp only
  repeat' split
  all_goals first | exact good5 | exact good6 | exact good0 rfl
theorem doV_code {v : Val} {c : Cmd} : (doV v c).2.code = 0 ∨ ∃ e, (doV v c).2 = failR e ∧ e ≠ 0 ∧ e ≠ 4 := by
  change Good (doV v c).2
  unfold doV
  repeat' split
  all_goals first | exact hashV_good _ _ | exact listV_good _ _ | exact setV_good _ _ | exact ranksV_good _ _ | exact good7 | exact good0 rfl
theorem DoEnd_code {v : Val} {q : Val × Rep} (h : q.2.code = 0 ∨ ∃ e, q.2 = failR e ∧ e ≠ 0 ∧ e ≠ 4) : (DoEnd v q).2.1.code = 0 ∨ ∃ e, DoEnd v q = (v, failR e, 0) ∧ e ≠ 0 ∧ e ≠ 4 := by
  rcases h with h | ⟨e, h1, h2, h3⟩
  · left
    unfold DoEnd
    rw [if_neg (by rw [h]; simp)]
    split <;> exact h
  · right
    refine ⟨e, ?_, h2, h3⟩
    rw [DoEnd_fail (by rw [h1]; exact h2), h1]
end Go.Proofs.Ytcfpphadlgbfdaa
