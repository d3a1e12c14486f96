/- The abstract evaluator, part 15: calls of functions that take and give plain data. -/
import Derived.Test.YtlgcebeianjaiaaAeSound
set_option linter.unusedVariables false
set_option linter.unusedSimpArgs false
namespace Go.Proofs.AE
open Go Go.RowKit

def flatC : C → Bool
  | .v (.lit _) => true
  | _ => false

mutual
def flatAV : AV → Bool
  | .one c => flatC c
  | .agg cs => cs.all flatC
  | .tup l => flatAVs l
  | _ => false
def flatAVs : List AV → Bool
  | [] => true
  | v :: l => flatAV v && flatAVs l
end

section
variable {P : Program} {G : Nat → AV} {k n : Nat} {w w' w2 : World} {ok ok' ok2 : Nat → Prop} {μ μ' μ2 : List MB} {hp hp' : Hp}

theorem flatC_rel {c : C} {x : Value} (h : flatC c = true) (hr : CRel w ok μ c x) : CRel w2 ok2 μ2 c x := by
  unfold flatC at h
  split at h
  · cases hr with | v hr => cases hr with | lit _ h => exact .v (.lit _ h)
  · cases h

theorem flatCs_rel : ∀ {cs : List C} {xs : List Value}, cs.all flatC = true → All2 (CRel w ok μ) cs xs → All2 (CRel w2 ok2 μ2) cs xs
  | [], _, _, .nil => .nil
  | c :: cs, _, h, .cons hc ht => by
    simp only [List.all_cons, Bool.and_eq_true] at h
    exact .cons (flatC_rel h.1 hc) (flatCs_rel h.2 ht)

mutual
theorem flatAV_rel : ∀ {v : AV} {x : Value}, flatAV v = true → AVRel w ok μ v x → AVRel w2 ok2 μ2 v x
  | .one _, _, h, .one hc => .one (flatC_rel h hc)
  | .agg _, _, h, .agg hc => .agg (flatCs_rel h hc)
  | .tup _, _, h, .tup ht => .tup (flatAVs_rel h ht)
theorem flatAVs_rel : ∀ {l : List AV} {xs : List Value}, flatAVs l = true → AVRels w ok μ l xs → AVRels w2 ok2 μ2 l xs
  | [], _, _, .nil => .nil
  | v :: l, _, h, .cons hv ht => by
    simp only [flatAVs, Bool.and_eq_true] at h
    exact .cons (flatAV_rel h.1 hv) (flatAVs_rel h.2 ht)
end

theorem not_own_nil {μ : List MB} {b : Nat} : ¬ OwnL [] μ b := fun ⟨i, blk, m, h, _⟩ => by simp at h

theorem hr_nil (h : ∀ b, ok b → b < w.heap.size) : HR w ok [] [] :=
  ⟨rfl, fun i b h => by simp at h, fun i j b c m n k _ h => by simp at h, fun k hk => ⟨h k hk, fun i b m h => by simp at h⟩⟩

/-- What a call of plain data leaves of the caller's memory: all. -/
theorem step_frame (hr : HR w ok μ hp) (hs : Step w ok [] [] w' ok' μ' []) : Step w ok μ hp w' ok' μ hp := by
  have hf : ∀ b, b < w.heap.size → w'.heap[b]? = w.heap[b]? := fun b hb => hs.frame b hb not_own_nil
  refine ⟨⟨hr.len, ?_, hr.inj, ?_⟩, hs.os, hs.tape, hs.output, hs.size, fun b hb _ => hf b hb, hs.oksub, ?_, fun b h => .inr h, fun _ _ h => h⟩
  · intro i b hb
    obtain ⟨m, h1, h2⟩ := hr.rel i b hb
    exact ⟨m, h1, h2.mono (fun b hb => hf b (hr.keep hb).1) hs.oksub (fun _ _ h => h) fun b hb => hf b (h2.lt hb)⟩
  · intro b hb
    refine ⟨(hs.hr.okn b hb).1, fun i c m h1 h2 h3 => ?_⟩
    rcases hs.okfrom b hb with h4 | h4 | h4
    · exact (hr.okn b h4).2 i c m h1 h2 h3
    · have := hr.own_lt ⟨i, c, m, h1, h2, h3⟩; omega
    · exact not_own_nil h4
  · intro b hb
    rcases hs.okfrom b hb with h4 | h4 | h4
    · exact .inl h4
    · exact .inr (.inl h4)
    · exact (not_own_nil h4).elim

/-- A call that takes plain data. -/
theorem acall_pure {f : Nat} {args args' : List AV} {K : AV → Prop} (hc : coeAVs hp [] [] args' args) (h : ACall P G f [] args' fun r hp' => hp' = [] ∧ K r) : ACall P G f hp args fun r hp' => hp' = hp ∧ K r := by
  intro w ok μ xs hr hg hargs
  have hv : View w ok μ hp [] [] ok [] := ⟨hr, fun i j m h => by simp at h, fun _ h => h, fun i m b h => by simp at h⟩
  refine (h w ok [] xs (hr_nil fun b hb => (hr.keep hb).1) hg (coeAVs_rel hv hc hargs)).mono ?_
  rintro e w' ⟨x, r, hp', ok', μ', rfl, hs, hrel, rfl, hk⟩
  have hμ' : μ' = [] := List.eq_nil_of_length_eq_zero hs.hr.len
  subst hμ'
  exact ⟨x, r, hp, ok', μ, rfl, step_frame hr hs, hrel.ext (fun i m h => by simp at h), rfl, hk⟩

/-- A call that takes plain data, arrays of one's own among it, and tells scalars: the arrays stay one's own. -/
theorem acall_borrow {f : Nat} {args args' : List AV} {K : AV → Prop} (F : List Nat) (hc : coeAVs hp F [] args' args) (h : ACall P G f [] args' fun r hp' => hp' = [] ∧ K r ∧ flatAV r = true) : ACall P G f hp args fun r hp' => hp' = hp ∧ K r := by
  intro w ok μ xs hr hg hargs
  let ok2 : Nat → Prop := fun b => ok b ∨ OwnL hp μ b
  have hv : View w ok μ hp F [] ok2 [] := ⟨hr, fun i j m h => by simp at h, fun _ h => .inl h, fun i m b _ ⟨blk, h1⟩ h2 h3 => .inr ⟨i, blk, m, h1, h2, h3⟩⟩
  have hlt : ∀ b, ok2 b → b < w.heap.size := by
    rintro b (h | h)
    · exact (hr.keep h).1
    · exact hr.own_lt h
  refine (h w ok2 [] xs (hr_nil hlt) (fun g ν => (hg g ν).mono (fun _ _ => rfl) fun _ h => .inl h) (coeAVs_rel hv hc hargs)).mono ?_
  rintro e w' ⟨x, r, hp', ok', μ', rfl, hs, hrel, rfl, hk, hflat⟩
  have hf : ∀ b, b < w.heap.size → w'.heap[b]? = w.heap[b]? := fun b hb => hs.frame b hb not_own_nil
  refine ⟨x, r, hp, ok, μ, rfl, ⟨⟨hr.len, ?_, hr.inj, ?_⟩, hs.os, hs.tape, hs.output, hs.size, fun b hb _ => hf b hb, fun _ h => h, fun b h => .inl h, fun b h => .inr h, fun _ _ h => h⟩, flatAV_rel hflat hrel, rfl, hk⟩
  · intro i b hb
    obtain ⟨m, h1, h2⟩ := hr.rel i b hb
    exact ⟨m, h1, h2.mono (fun b hb => hf b (hr.keep hb).1) (fun _ h => h) (fun _ _ h => h) fun b hb => hf b (h2.lt hb)⟩
  · intro b hb
    exact ⟨Nat.lt_of_lt_of_le (hr.keep hb).1 hs.size, (hr.okn b hb).2⟩

/-- A function of plain data: what it answers. -/
def PCall (P : Program) (G : Nat → AV) (f : Nat) (args : List AV) (r : AV) : Prop := ACall P G f [] args fun r' hp' => hp' = [] ∧ r' = r

theorem PCall.at {f : Nat} {args args' : List AV} {r : AV} (h : PCall P G f args' r) (hc : coeAVs hp [] [] args' args) : ACall P G f hp args fun r' hp' => hp' = hp ∧ r' = r := acall_pure hc h
theorem PCall.borrow {f : Nat} {args args' : List AV} {r : AV} (h : PCall P G f args' r) (F : List Nat) (hf : flatAV r = true) (hc : coeAVs hp F [] args' args) : ACall P G f hp args fun r' hp' => hp' = hp ∧ r' = r :=
  acall_borrow F hc (h.mono fun r' hp' ⟨h1, h2⟩ => ⟨h1, h2, h2 ▸ hf⟩)

end
end Go.Proofs.AE
