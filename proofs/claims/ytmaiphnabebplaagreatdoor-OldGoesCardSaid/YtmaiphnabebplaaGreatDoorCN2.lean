/- Who goes when there is no room: plain laws. -/
import Derived.Test.YtmaiphnabebplaaGreatDoorCL9
set_option linter.unusedVariables false
set_option linter.unusedSimpArgs false
set_option maxRecDepth 100000
set_option maxHeartbeats 8000000
namespace Go.Proofs.YtmaiphnabebplaaGreatDoor
open Go Go.RowKit Go.Proofs.AE
def zD : Deed := ⟨0, 0, 0, 0, 0, 0, 0, ⟨#[]⟩⟩
theorem zD_ok : zD.Ok := by refine ⟨?_, ?_, ?_, ?_, ?_, ?_, ?_⟩ <;> (unfold zD i64; simp only; omega)
def z4 : List Deed := [zD, zD, zD, zD]
theorem zD_call (l : List Cli) : callD l zD = openC := rfl
theorem step_zero {m : Mach} (h : OkM m) (hn : m.sto.now = 0) : stepM (0, m) zD = (0, (openM m).1) := by
  have e := do_open h
  rw [hn] at e
  unfold stepM
  rw [zD_call]
  show ((0 : Int) + 0, _) = _
  simp only [show (0 : Int) + pk zD.wait 8 = 0 from rfl, e, if_pos]
  rfl
theorem open_now (m : Mach) : (openM m).1.sto.now = m.sto.now := by unfold openM; split <;> rfl
theorem fold_z4 : ∃ m, foldM z4 = (0, m) ∧ Inv 4 m ∧ m.sto.now = 0 ∧ m.clis.length = 4 := by
  have o0 := newM_inv
  have o1 := openM_inv o0
  have o2 := openM_inv o1
  have o3 := openM_inv o2
  have o4 := openM_inv o3
  have n0 : newM.sto.now = 0 := rfl
  have n1 : (openM newM).1.sto.now = 0 := by rw [open_now]; exact n0
  have n2 : (openM (openM newM).1).1.sto.now = 0 := by rw [open_now]; exact n1
  have n3 : (openM (openM (openM newM).1).1).1.sto.now = 0 := by rw [open_now]; exact n2
  refine ⟨(openM (openM (openM (openM newM).1).1).1).1, ?_, o4, by rw [open_now]; exact n3, rfl⟩
  unfold foldM z4
  simp only [List.foldl_cons, List.foldl_nil]
  rw [step_zero o0.ok n0, step_zero o1.ok n1, step_zero o2.ok n2, step_zero o3.ok n3]
theorem open_four {m : Mach} (h4 : m.clis.length = 4) : (openM m).1.clis.length = 4 := by
  have hlt := oldest_lt m.clis m.clis 0 0 (by omega) (by omega)
  unfold openM
  split
  · exact h4
  · show (delAt m.clis (oldest m.clis 0 0 m.clis) ++ [_]).length = 4
    rw [List.length_append]
    have := delE_len hlt
    simp; omega
theorem call_four {m : Mach} (h4 : m.clis.length = 4) (t : Int) (c : Cal) : (callM m t c).1.clis.length = 4 := by
  unfold callM
  split
  · exact open_four h4
  · repeat' split
    all_goals first | exact h4 | (show (m.clis.set _ _).length = 4; rw [List.length_set]; exact h4)
theorem step_four {k : Nat} {q : Int × Mach} {d : Deed} (h : Inv k q.2) (hk : k ≤ 100) (hd : d.Ok) (n0 : 0 ≤ q.1) (n1 : q.1 ≤ 7 * (k : Int)) (h4 : q.2.clis.length = 4) : (stepM q d).2.clis.length = 4 := by
  have hp := pk_range (n := d.wait) (m := 8) (by omega)
  have hc := callD_ok h (by omega) hd
  obtain ⟨e, _⟩ := do_ok h.ok (t := q.1 + pk d.wait 8) (by omega) (by omega) hc
  unfold stepM
  rw [e]
  simp only [if_true]
  generalize (⟨maxI q.2.sto.now (q.1 + pk d.wait 8), aliveS (maxI q.2.sto.now (q.1 + pk d.wait 8)) q.2.sto⟩ : Sto) = S
  exact call_four (m := ⟨S, q.2.next, q.2.clis⟩) h4 _ _
theorem fold_four : ∀ (l : List Deed) (q : Int × Mach) (k : Nat), (∀ d ∈ l, d.Ok) → k + l.length ≤ 100 → Inv k q.2 → 0 ≤ q.1 → q.1 ≤ 7 * (k : Int) → q.2.sto.now ≤ q.1 → q.2.clis.length = 4 → (l.foldl stepM q).2.clis.length = 4
  | [], q, k, _, _, _, _, _, _, h4 => h4
  | d :: l, q, k, hl, hk, h, n0, n1, n2, h4 => by
    simp only [List.length_cons] at hk
    have hd := hl d (List.mem_cons_self ..)
    have hp := pk_range (n := d.wait) (m := 8) (by omega)
    have hs := step_four h (by omega) hd n0 n1 h4
    obtain ⟨m', r, _, e, hi, hn⟩ := stepM_inv h (by omega) hd n0 n1 n2
    rw [e] at hs
    rw [List.foldl_cons, e]
    exact fold_four l (q.1 + pk d.wait 8, m') (k + 1) (fun y hy => hl y (List.mem_cons_of_mem _ hy)) (by omega) hi (by show 0 ≤ q.1 + pk d.wait 8; omega) (by show q.1 + pk d.wait 8 ≤ _; omega) (by show m'.sto.now ≤ q.1 + pk d.wait 8; omega) hs
theorem mach_four (l : List Deed) (hl : ∀ d ∈ l, d.Ok) : (machV (z4 ++ l)).clis.length = 4 := by
  obtain ⟨m, e, hi, hn, h4⟩ := fold_z4
  have ht : (z4 ++ l).take 40 = z4 ++ l.take 36 := by
    rw [List.take_append]; rfl
  unfold machV foldM
  rw [ht, List.foldl_append]
  change ((l.take 36).foldl stepM (foldM z4)).2.clis.length = 4
  rw [e]
  exact fold_four (l.take 36) (0, m) 4 (fun d hd => hl d (List.mem_of_mem_take hd)) (by rw [List.length_take]; omega) hi (Int.le_refl _) (by show (0 : Int) ≤ _; omega) (by show m.sto.now ≤ 0; omega) h4
theorem oldest_spec (all : List Cli) : ∀ (r : List Cli) (old i : Nat) (y : Cli), r = all.drop i → all[old]? = some y → old ≤ i → (∀ (k : Nat) z, k < i → all[k]? = some z → y.time ≤ z.time ∧ (k < old → y.time < z.time)) →
    ∃ o w, oldest all old i r = o ∧ all[o]? = some w ∧ ∀ (k : Nat) z, all[k]? = some z → w.time ≤ z.time ∧ (k < o → w.time < z.time)
  | [], old, i, y, hr, hy, ho, h => by
    refine ⟨old, y, rfl, hy, fun k z hz => h k z ?_ hz⟩
    have := List.drop_eq_nil_iff.1 hr.symm
    have hk := (List.getElem?_eq_some_iff.1 hz).1
    omega
  | x :: r, old, i, y, hr, hy, ho, h => by
    have hx : all[i]? = some x := by
      have := congrArg (fun l : List Cli => l[0]?) hr
      simpa using this.symm
    have hr' : r = all.drop (i + 1) := by
      have := congrArg List.tail hr
      simpa using this
    unfold oldest
    rw [hy]
    simp only
    by_cases hc : x.time < y.time
    · rw [if_pos hc]
      refine oldest_spec all r i (i + 1) x hr' hx (by omega) fun k z hk hz => ?_
      by_cases hki : k = i
      · subst hki; rw [hx] at hz; cases hz; exact ⟨Int.le_refl _, fun h => by omega⟩
      · have := (h k z (by omega) hz).1
        exact ⟨by omega, fun _ => by omega⟩
    · rw [if_neg hc]
      refine oldest_spec all r old (i + 1) y hr' hy (by omega) fun k z hk hz => ?_
      by_cases hki : k = i
      · subst hki; rw [hx] at hz; cases hz; exact ⟨by omega, fun h => by omega⟩
      · exact h k z (by omega) hz
theorem del_any {l : List Cli} (h : RiseC l) {O i : Nat} {x : Cli} (hi : l[i]? = some x) {nx : Int} (hn : x.id < nx) {y : Cli} (hy : y.id = nx) : ((delAt l O ++ [y]).any fun z => z.id == x.id) = decide (i ≠ O) := by
  have hyx : (y.id == x.id) = false := by rw [beq_eq_false_iff_ne]; omega
  rw [List.any_append, List.any_cons, List.any_nil, hyx, Bool.or_false, Bool.or_false]
  unfold delAt
  rw [Bool.eq_iff_iff, List.any_eq_true, decide_eq_true_iff]
  constructor
  · rintro ⟨z, hz, he⟩ rfl
    have he : z.id = x.id := by simpa using he
    rcases List.mem_append.1 hz with hz | hz
    · obtain ⟨k, hk, hkz⟩ := List.getElem_of_mem hz
      rw [List.length_take] at hk
      have : l[k]? = some z := by rw [List.getElem?_eq_getElem (by omega)]; rw [List.getElem_take] at hkz; rw [hkz]
      have := rise_uniq h this hi he
      omega
    · obtain ⟨k, hk, hkz⟩ := List.getElem_of_mem hz
      rw [List.length_drop] at hk
      have : l[i + 1 + k]? = some z := by rw [List.getElem?_eq_getElem (by omega)]; rw [List.getElem_drop] at hkz; rw [hkz]
      have := rise_uniq h this hi he
      omega
  · intro hne
    refine ⟨x, ?_, by simp⟩
    obtain ⟨hl, he⟩ := List.getElem?_eq_some_iff.1 hi
    rcases Nat.lt_or_gt_of_ne hne with hlt | hgt
    · refine List.mem_append.2 (.inl ?_)
      rw [List.mem_take_iff_getElem]
      exact ⟨i, by omega, he⟩
    · refine List.mem_append.2 (.inr ?_)
      rw [List.mem_drop_iff_getElem]
      exact ⟨i - (O + 1), by omega, by simp only [show O + 1 + (i - (O + 1)) = i by omega]; exact he⟩
end Go.Proofs.YtmaiphnabebplaaGreatDoor
