/- The abstract evaluator, part 15: calls of functions that take and give plain data. -/
import Derived.Test.YtniihihcklpdgaaAeSound
set_option linter.unusedVariables false
set_option linter.unusedSimpArgs false
namespace Go.Proofs.AE
open Go Go.RowKit

section
variable {P : Program} {G : Nat → AV} {k n : Nat} {w w' w2 : World} {ok ok' ok2 : Nat → Prop} {μ μ' μ2 : List MB} {hp hp' : Hp}

/-- A call that takes plain data. -/
theorem acall_pure {f : Nat} {args args' : List AV} {K : AV → Prop} (hc : coeAVs hp [] [] args' args) (h : ACall P G f [] args' fun r hp' => hp' = [] ∧ K r) : ACall P G f hp args fun r hp' => hp' = hp ∧ K r := by
  intro w ok μ xs hr hg hargs
  have hv : View w ok μ hp [] [] ok [] := ⟨hr, fun i j m h => by simp at h, fun _ h => h, fun i m b h => by simp at h⟩
  refine (h w ok [] xs (hr_nil fun b hb => (hr.keep hb).1) hg (coeAVs_rel hv hc hargs)).mono ?_
  rintro e w' ⟨x, r, hp', ok', μ', rfl, hs, hrel, rfl, hk⟩
  have hμ' : μ' = [] := List.eq_nil_of_length_eq_zero hs.hr.len
  subst hμ'
  exact ⟨x, r, hp, ok', μ, rfl, step_frame hr hs, hrel.ext (fun i m h => by simp at h), rfl, hk⟩

/-- A call that takes plain data, arrays of one's own among it, and tells scalars: the arrays stay one's own. -/
theorem acall_borrow {f : Nat} {args args' : List AV} {K : AV → Prop} (F : List Nat) (hc : coeAVs hp F [] args' args) (h : ACall P G f [] args' fun r hp' => hp' = [] ∧ K r ∧ flatAV r = true) : ACall P G f hp args fun r hp' => hp' = hp ∧ K r := by
  intro w ok μ xs hr hg hargs
  let ok2 : Nat → Prop := fun b => ok b ∨ OwnL hp μ b
  have hv : View w ok μ hp F [] ok2 [] := ⟨hr, fun i j m h => by simp at h, fun _ h => .inl h, fun i m b _ ⟨blk, h1⟩ h2 h3 => .inr ⟨i, blk, m, h1, h2, h3⟩⟩
  have hlt : ∀ b, ok2 b → b < w.heap.size := by
    rintro b (h | h)
    · exact (hr.keep h).1
    · exact hr.own_lt h
  refine (h w ok2 [] xs (hr_nil hlt) (fun g ν => (hg g ν).mono (fun _ _ => rfl) fun _ h => .inl h) (coeAVs_rel hv hc hargs)).mono ?_
  rintro e w' ⟨x, r, hp', ok', μ', rfl, hs, hrel, rfl, hk, hflat⟩
  have hf : ∀ b, b < w.heap.size → w'.heap[b]? = w.heap[b]? := fun b hb => hs.frame b hb not_own_nil
  refine ⟨x, r, hp, ok, μ, rfl, ⟨⟨hr.len, ?_, hr.inj, ?_⟩, hs.os, hs.tape, hs.output, hs.size, fun b hb _ => hf b hb, fun _ h => h, fun b h => .inl h, fun b h => .inr h, fun _ _ h => h⟩, flatAV_rel hflat hrel, rfl, hk⟩
  · intro i b hb
    obtain ⟨m, h1, h2⟩ := hr.rel i b hb
    exact ⟨m, h1, h2.mono (fun b hb => hf b (hr.keep hb).1) (fun _ h => h) (fun _ _ h => h) fun b hb => hf b (h2.lt hb)⟩
  · intro b hb
    exact ⟨Nat.lt_of_lt_of_le (hr.keep hb).1 hs.size, (hr.okn b hb).2⟩

/-- A function of plain data: what it answers. -/
def PCall (P : Program) (G : Nat → AV) (f : Nat) (args : List AV) (r : AV) : Prop := ACall P G f [] args fun r' hp' => hp' = [] ∧ r' = r

theorem PCall.at {f : Nat} {args args' : List AV} {r : AV} (h : PCall P G f args' r) (hc : coeAVs hp [] [] args' args) : ACall P G f hp args fun r' hp' => hp' = hp ∧ r' = r := acall_pure hc h
theorem PCall.borrow {f : Nat} {args args' : List AV} {r : AV} (h : PCall P G f args' r) (F : List Nat) (hf : flatAV r = true) (hc : coeAVs hp F [] args' args) : ACall P G f hp args fun r' hp' => hp' = hp ∧ r' = r :=
  acall_borrow F hc (h.mono fun r' hp' ⟨h1, h2⟩ => ⟨h1, h2, h2 ▸ hf⟩)

end
end Go.Proofs.AE
