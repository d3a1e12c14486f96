/- What the checks of calls answer. -/
import Derived.Test.YtcfpphadlgbfdaaD
set_option linter.unusedVariables false
set_option linter.unusedSimpArgs false
set_option maxRecDepth 100000
set_option maxHeartbeats 8000000
namespace Go.Proofs.Ytcfpphadlgbfdaa
open Go Go.RowKit Go.Proofs.AE
variable {G : Nat → AV}
def checkCall (client seq k : Int) (key field text : ByteArray) (n : Int) : Int :=
  if decide (client = 0) then (if (seq == 0 && (k == 0 && (decide (key = ⟨#[]⟩) && (decide (field = ⟨#[]⟩) && (decide (text = ⟨#[]⟩) && n == 0))))) then 0 else 8)
  else if okNumber client then (if okNumber seq then checkCommand k key field text n else 2) else 2
theorem checkCall_one {k : Int} {a b c : ByteArray} {x : Int} (q : Int) (h : checkCommand k a b c x = 0) : checkCall 1 q k a b c x = if okNumber q then 0 else 2 := by
  simp [checkCall, h, show okNumber 1 = true from rfl]
theorem checkCall_neg {k : Int} {a b c : ByteArray} {x q w : Int} (h : w < 0) : checkCall w q k a b c x = 2 := by
  have h1 : okNumber w = false := by simp only [okNumber, Bool.and_eq_false_iff, decide_eq_false_iff_not]; omega
  have h2 : w ≠ 0 := by omega
  simp [checkCall, h1, h2]
theorem cmd_ok (kind key field n : Int) (text : ByteArray) (h4 : i64 n) : ∀ k a b c m, cmdOf (1 + pk kind 22) key field n text = [iC k, sC a, sC b, sC c, iC m] → checkCommand k a b c m = 0 := by
  intro k a b c m h
  have hr := pk_range (n := kind) (m := 22) (by omega)
  have h60 := pk_range (n := n) (m := 60) (by omega)
  have h12 := pk_range (n := n) (m := 12) (by omega)
  have hs : ∀ x, okField (someS x) = true := fun x => rfl
  have hst : ∀ x, okText (someS x) = true := fun x => rfl
  have hc : okText (cmdText n text) = true := by
    unfold cmdText
    split
    · rfl
    · have := cutS_size text (n := 6) (by omega)
      simp only [okText, decide_eq_true_eq]
      omega
  have he : okText ⟨#[]⟩ = true := rfl
  have hn : okCount (n.tmod 1073741824) = true := by
    have h1 := Int.tmod_lt_of_pos n (b := 1073741824) (by omega)
    have h2 : -1073741824 < n.tmod 1073741824 := by
      rcases Int.le_total 0 n with h | h
      · have := Int.tmod_nonneg 1073741824 h; omega
      · have h3 := Int.tmod_lt_of_pos (-n) (b := 1073741824) (by omega)
        rw [Int.neg_tmod] at h3
        omega
    simp only [okCount, Bool.and_eq_true, decide_eq_true_eq]
    omega
  have hn0 : okCount 0 = true := rfl
  have hn1 : okCount (pk n 60) = true := by simp only [okCount, Bool.and_eq_true, decide_eq_true_eq]; omega
  have hn2 : okCount (pk n 12 - 6) = true := by simp only [okCount, Bool.and_eq_true, decide_eq_true_eq]; omega
  simp only [cmdOf, List.cons.injEq, C.v.injEq, V.lit.injEq, Value.int.injEq, Value.string.injEq, and_true, true_and] at h
  obtain ⟨rfl, rfl, rfl, rfl, rfl⟩ := h
  have hk : pk kind 22 = 0 ∨ pk kind 22 = 1 ∨ pk kind 22 = 2 ∨ pk kind 22 = 3 ∨ pk kind 22 = 4 ∨ pk kind 22 = 5 ∨ pk kind 22 = 6 ∨ pk kind 22 = 7 ∨ pk kind 22 = 8 ∨ pk kind 22 = 9 ∨ pk kind 22 = 10 ∨ pk kind 22 = 11 ∨ pk kind 22 = 12 ∨ pk kind 22 = 13 ∨ pk kind 22 = 14 ∨ pk kind 22 = 15 ∨ pk kind 22 = 16 ∨ pk kind 22 = 17 ∨ pk kind 22 = 18 ∨ pk kind 22 = 19 ∨ pk kind 22 = 20 ∨ pk kind 22 = 21 := by omega
  rcases hk with hk | hk | hk | hk | hk | hk | hk | hk | hk | hk | hk | hk | hk | hk | hk | hk | hk | hk | hk | hk | hk | hk
  all_goals simp [hk, checkCommand, formOk, hs, hst, hc, he, hn, hn0, hn1, hn2]
theorem nodup_le {α : Type} [DecidableEq α] : ∀ (l m : List α), l.Pairwise (· ≠ ·) → (∀ x ∈ l, x ∈ m) → l.length ≤ m.length
  | [], m, _, _ => Nat.zero_le _
  | x :: l, m, h, hm => by
    obtain ⟨h1, h2⟩ := List.pairwise_cons.1 h
    have hx := hm x (List.mem_cons_self ..)
    have := nodup_le l (m.erase x) h2 fun y hy => (List.mem_erase_of_ne fun e => h1 y hy e.symm).2 (hm y (List.mem_cons_of_mem _ hy))
    have hl := List.length_erase_of_mem hx
    have hp := List.length_pos_of_mem hx
    simp only [List.length_cons]; omega
def nine : List ByteArray := (List.range 9).map fun i => ⟨#[UInt8.ofNat (97 + i)]⟩
theorem some_nine (n : Int) : someS n ∈ nine := by
  have hp := pk_range (n := n) (m := 9) (by omega)
  unfold someS nine
  refine List.mem_map.2 ⟨(pk n 9).toNat, List.mem_range.2 (by omega), ?_⟩
  rw [show (97 + pk n 9).toNat = 97 + (pk n 9).toNat by omega]
end Go.Proofs.Ytcfpphadlgbfdaa
