/- A made log is a log. -/
import Derived.Test.YtniihihcklpdgaaM
set_option linter.unusedVariables false
set_option linter.unusedSimpArgs false
set_option maxRecDepth 100000
set_option maxHeartbeats 8000000
namespace Go.Proofs.Ytniihihcklpdgaa
open Go Go.RowKit Go.Proofs.AE
theorem itemOf_check (d : Deed) (hd : d.Ok) {term time : Int} (h1 : 1 ≤ term ∧ term ≤ 1048576) (h2 : 0 ≤ time ∧ time ≤ 1073741824) : (itemOf d term time).check = 0 := by
  have hI := itemOf_call d term time
  obtain ⟨t1, t2, t3⟩ := itemOf_head d term time
  unfold Item.check
  rw [t1, t2, t3]
  generalize itemOf d term time = x at *
  have hg := callGood hd.n _ _ _ _ _ _ _ hI
  have n1 : ¬ term < 1 := by omega
  have n2 : ¬ 1048576 < term := by omega
  have n3 : ¬ time < 0 := by omega
  have n4 : ¬ 1073741824 < time := by omega
  by_cases h : pk d.client 5 = 0
  · unfold itemCall at hI
    rw [if_pos (.inl h)] at hI
    simp only [List.cons.injEq, C.v.injEq, V.lit.injEq, Value.int.injEq, Value.string.injEq, and_true, true_and] at hI
    obtain ⟨e1, e2, e3, e4, e5, e6, e7⟩ := hI
    have hnc : noCall x.client x.seq x.k x.key x.field x.text x.n = true := by
      rw [← e1, ← e2, ← e3, ← e4, ← e5, ← e6, ← e7]; decide
    simp [checkItem, n1, n2, n3, n4, h, hnc]
  · simp [checkItem, n1, n2, n3, n4, h, hg]
theorem itemsGo_length : ∀ (l : List Deed) (a b : Int), (itemsGo l a b).length = l.length
  | [], _, _ => rfl
  | d :: l, a, b => by simp [itemsGo, itemsGo_length l]
theorem step_range (d : Deed) : 0 ≤ (pk d.off 4).tdiv 3 ∧ (pk d.off 4).tdiv 3 ≤ 1 ∧ 0 ≤ pk d.wait 3 ∧ pk d.wait 3 ≤ 2 := by
  have q1 := pk_range (n := d.off) (m := 4) (by omega)
  have q2 := pk_range (n := d.wait) (m := 3) (by omega)
  rw [Int.tdiv_eq_ediv_of_nonneg q1.1]
  omega
theorem chk_go : ∀ (l : List Deed) (term time t m : Int), (∀ d ∈ l, d.Ok) → t ≤ term → m ≤ time → 1 ≤ term → 0 ≤ time → term + l.length ≤ 1000 → time + 2 * l.length ≤ 1000 → chk (itemsGo l term time) t m = true
  | [], _, _, _, _, _, _, _, _, _, _, _ => rfl
  | d :: l, term, time, t, m, hd, h1, h2, h3, h4, h5, h6 => by
    obtain ⟨s1, s2, s3, s4⟩ := step_range d
    simp only [List.length_cons] at h5 h6
    push_cast at h5 h6
    obtain ⟨t1, t2, _⟩ := itemOf_head d (term + (pk d.off 4).tdiv 3) (time + pk d.wait 3)
    have hc := itemOf_check d (hd d (List.mem_cons_self ..)) (term := term + (pk d.off 4).tdiv 3) (time := time + pk d.wait 3) (by omega) (by omega)
    simp only [itemsGo, chk, t1, t2, hc]
    rw [chk_go l _ _ _ _ (fun d h => hd d (List.mem_cons_of_mem _ h)) (Int.le_refl _) (Int.le_refl _) (by omega) (by omega) (by omega) (by omega)]
    simp
    omega
theorem logItems_length (l : List Deed) (base : Int) : (logItems l base).length ≤ 30 := by
  unfold logItems itemsOf
  rw [itemsGo_length]
  simp
  omega
abbrev logBT (base : Int) : Int := if pk base 12 = 0 then 0 else 2
theorem made_ok (l : List Deed) (base : Int) (hd : ∀ d ∈ l, d.Ok) : checkLog (pk base 12) (logBT base) (logItems l base) = 0 := by
  have hb := pk_range (n := base) (m := 12) (by omega)
  have hl := logItems_length l base
  have hh : headOk (pk base 12) (logBT base) (logItems l base).length = true := by
    unfold headOk logBT
    by_cases h : pk base 12 = 0 <;> simp [h] <;> omega
  have hc : chk (logItems l base) (logBT base) 0 = true := by
    unfold logItems itemsOf
    have h30 : (l.take 30).length ≤ 30 := by simp; omega
    refine chk_go _ _ _ _ _ (fun d h => hd d (List.mem_of_mem_take h)) ?_ (Int.le_refl _) ?_ (by omega) ?_ (by omega)
    · unfold logBT; split <;> omega
    · split <;> omega
    · split <;> omega
  simp [checkLog, hh, hc]
end Go.Proofs.Ytniihihcklpdgaa
