/- The abstract evaluator: AeLoop. -/
import Derived.Test.YtpdcfljbabpakaaAeRun
/- The abstract evaluator, part 21: loops. -/
set_option linter.unusedVariables false
set_option linter.unusedSimpArgs false
namespace Go.Proofs.AE
open Go Go.RowKit

section
variable {P : Program} {k : Nat} {s : S}

/-- A frame that says what another one says, or less. -/
def frSub (fr : List (Nat × AV)) : List (Nat × AV) → Prop
  | [] => True
  | (t, v) :: r => v = getF fr t ∧ frSub fr r

attribute [go_sem] frSub
theorem frSub_get {fr : List (Nat × AV)} : ∀ {fr' : List (Nat × AV)}, frSub fr fr' → ∀ t, getF fr' t = .any ∨ getF fr' t = getF fr t
  | [], _, t => .inl rfl
  | (u, v) :: r, ⟨h1, h2⟩, t => by
    simp only [getF]
    by_cases hu : u = t
    · subst hu; rw [if_pos rfl]; exact .inr h1
    · rw [if_neg hu]; exact frSub_get h2 t

theorem weak_fr {s' : S} (hg : s'.gl = s.gl) (hh : s'.hp = s.hp) (hf : frSub s.fr s'.fr) : Weak k s s' := by
  refine ⟨hg, fun n w ok μ a hst => ⟨ok, μ, ⟨hh ▸ hst.hr, hst.size, hst.defers, fun t => ?_, hg ▸ hst.gl⟩, by rw [hh]; exact (Step.refl hst.hr).far⟩⟩
  rcases frSub_get hf t with h | h
  · rw [h]; exact .any
  · rw [h]; exact hst.fr t

/-- A region with several orders: one state behind all of them. -/
theorem awp_join {alts : List (List AOp × List (Nat × Nat))} {Q : Exit → S → Prop} (s0 : S) (h : allAlts P s (fun s' => Weak k s' s0) alts) (hq : Q .normal s0) : awp P k (.regD alts) Q s :=
  allAlts_mono (fun _ h => ⟨s0, h, hq⟩) h

theorem least {p : Nat → Prop} (h : ∃ n, p n) : ∃ n, p n ∧ ∀ m, p m → n ≤ m := by
  obtain ⟨n, hn⟩ := h
  induction n using Nat.strongRecOn with
  | _ n ih =>
    by_cases h : ∃ m, m < n ∧ p m
    · obtain ⟨m, h1, h2⟩ := h; exact ih m h1 h2
    · exact ⟨n, hn, fun m hm => Nat.le_of_not_lt fun hlt => h ⟨m, hlt, hm⟩⟩

/-- A round of a loop is over. -/
def Again {σ : Type} (k : Nat) (st : σ → S) (A : σ → Prop) (m : σ → Nat) (x : σ) (s' : S) : Prop := ∃ x', Weak k s' (st x') ∧ A x' ∧ m x' < m x
theorem Again.fr {σ : Type} {st : σ → S} {A : σ → Prop} {m : σ → Nat} {x : σ} {s' : S} (x' : σ) (hg : (st x').gl = s'.gl) (hh : (st x').hp = s'.hp) (hf : frSub s'.fr (st x').fr) (hA : A x') (hm : m x' < m x) : Again k st A m x s' :=
  ⟨x', weak_fr hg hh hf, hA, hm⟩

theorem Again.view {σ : Type} {st : σ → S} {A : σ → Prop} {m : σ → Nat} {x : σ} {s' : S} (x' : σ) (F ρ : List Nat) (hg : (st x').gl = s'.gl) (hlen : ρ.length = (st x').hp.length) (hnd : ρ.Nodup) (hF : ∀ i, i ∈ F → i ∉ ρ)
    (hf : coeF s'.hp F ρ s'.fr (st x').fr) (hh : coeH s'.hp F ρ 0 (st x').hp) (hA : A x') (hm : m x' < m x) : Again 0 st A m x s' :=
  ⟨x', weak_of F ρ hg hlen hnd hF (fun i h => by omega) hf hh, hA, hm⟩

theorem Again.auto {σ : Type} {st : σ → S} {A : σ → Prop} {m : σ → Nat} {x : σ} {s' : S} (x' : σ) (hw : WA k s' (st x')) (hA : A x') (hm : m x' < m x) : Again k st A m x s' := ⟨x', weak_auto hw, hA, hm⟩

/-- A loop, marked so that simp leaves its code alone. -/
def LoopH (P : Program) (k : Nat) (c : ACode) (Q : Exit → S → Prop) (s : S) (_ : Held c) (_ : Held Q) : Prop := awp P k (.loop c) Q s
@[go_sem ↓] theorem awp_loop' {c : ACode} {Q : Exit → S → Prop} : awp P k (.loop c) Q s = LoopH P k c Q s ⟨⟩ ⟨⟩ := rfl

/-- A loop, by states that are listed. -/
theorem awp_loop {σ : Type} (st : σ → S) (A : σ → Prop) (m : σ → Nat) {c : ACode} {Q : Exit → S → Prop} (x0 : σ) (h0 : Weak k s (st x0)) (hA : A x0)
    (hb : ∀ x, A x → awp P k c (thenA (Again k st A m x) Q) (st x)) {a : Held c} {b : Held Q} : LoopH P k c Q s a b := by
  unfold LoopH
  classical
  let I : S → Prop := fun s => ∃ x, A x ∧ s = st x
  have hex : ∀ s, I s → ∃ n, ∃ x, A x ∧ s = st x ∧ m x = n := fun s ⟨x, h1, h2⟩ => ⟨m x, x, h1, h2, rfl⟩
  let f : S → Nat := fun s => if h : I s then Classical.choose (least (hex s h)) else 0
  have hf : ∀ s, I s → (∃ x, A x ∧ s = st x ∧ m x = f s) ∧ ∀ x, A x → s = st x → f s ≤ m x := by
    intro s hs
    have hsp := Classical.choose_spec (least (hex s hs))
    have hfs : f s = Classical.choose (least (hex s hs)) := dif_pos hs
    rw [hfs]
    exact ⟨hsp.1, fun x h1 h2 => hsp.2 _ ⟨x, h1, h2, rfl⟩⟩
  refine ⟨I, f, ⟨st x0, h0, x0, hA, rfl⟩, fun s hs => ?_⟩
  obtain ⟨x, h1, h2, h3⟩ := (hf s hs).1
  have hbx := hb x h1
  rw [← h2] at hbx
  refine awp_mono (fun e s' he => ?_) hbx
  cases e with
  | normal =>
    obtain ⟨x', q1, q2, q3⟩ := he
    refine ⟨st x', q1, ⟨x', q2, rfl⟩, ?_⟩
    rw [← h3]
    exact Nat.lt_of_le_of_lt ((hf _ ⟨x', q2, rfl⟩).2 x' q2 rfl) q3
  | _ => exact he
end
end Go.Proofs.AE

