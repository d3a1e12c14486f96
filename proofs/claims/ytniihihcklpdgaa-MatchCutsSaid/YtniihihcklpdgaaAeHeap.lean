/- The abstract evaluator, part 9: one step of memory, and the operations that make or write memory. -/
import Derived.Test.YtniihihcklpdgaaAeBin5
import Derived.Laws.MakeOwn
import Derived.Lib.AppendStr
import Derived.Great.BuildSlice
set_option linter.unusedVariables false
set_option linter.unusedSimpArgs false
namespace Go.Proofs.AE
open Go Go.RowKit

/-- A block of the function's own. -/
def OwnL (hp : Hp) (μ : List MB) (b : Nat) : Prop := ∃ (i : Nat) (blk : Blk) (m : MB), hp[i]? = some (some blk) ∧ μ[i]? = some m ∧ m.own = some b

/-- From one memory to a later one. -/
structure Step (w : World) (ok : Nat → Prop) (μ : List MB) (hp : Hp) (w' : World) (ok' : Nat → Prop) (μ' : List MB) (hp' : Hp) : Prop where
  hr : HR w' ok' μ' hp'
  os : w'.os = w.os
  tape : w'.tape = w.tape
  output : w'.output = w.output
  size : w.heap.size ≤ w'.heap.size
  frame : ∀ b, b < w.heap.size → ¬ OwnL hp μ b → w'.heap[b]? = w.heap[b]?
  oksub : ∀ b, ok b → ok' b
  okfrom : ∀ b, ok' b → ok b ∨ w.heap.size ≤ b ∨ OwnL hp μ b
  ownfrom : ∀ b, OwnL hp' μ' b → w.heap.size ≤ b ∨ OwnL hp μ b
  ext : ∀ (i : Nat) m, μ[i]? = some m → μ'[i]? = some m

section
variable {P : Program} {n : Nat} {w w' : World} {ok ok' : Nat → Prop} {μ μ' : List MB} {hp hp' : Hp}

theorem HR.keep (hr : HR w ok μ hp) {b : Nat} (h : ok b) : b < w.heap.size ∧ ¬ OwnL hp μ b :=
  ⟨(hr.okn b h).1, fun ⟨i, blk, m, h1, h2, h3⟩ => (hr.okn b h).2 i blk m h1 h2 h3⟩

theorem Step.keep (hr : HR w ok μ hp) (h : Step w ok μ hp w' ok' μ' hp') (b : Nat) (hb : ok b) : w'.heap[b]? = w.heap[b]? :=
  h.frame b (hr.keep hb).1 (hr.keep hb).2

theorem Step.refl (hr : HR w ok μ hp) : Step w ok μ hp w ok μ hp :=
  ⟨hr, rfl, rfl, rfl, Nat.le_refl _, fun _ _ _ => rfl, fun _ h => h, fun _ h => .inl h, fun _ h => .inr h, fun _ _ h => h⟩

theorem Step.trans {w'' : World} {ok'' : Nat → Prop} {μ'' : List MB} {hp'' : Hp} (h : Step w ok μ hp w' ok' μ' hp') (h' : Step w' ok' μ' hp' w'' ok'' μ'' hp'') : Step w ok μ hp w'' ok'' μ'' hp'' where
  hr := h'.hr
  os := h'.os.trans h.os
  tape := h'.tape.trans h.tape
  output := h'.output.trans h.output
  size := Nat.le_trans h.size h'.size
  frame b hb hn := by
    rw [h'.frame b (Nat.lt_of_lt_of_le hb h.size) (fun ho => by rcases h.ownfrom b ho with h1 | h1; omega; exact hn h1), h.frame b hb hn]
  oksub b hb := h'.oksub b (h.oksub b hb)
  okfrom b hb := by
    rcases h'.okfrom b hb with h1 | h1 | h1
    · exact h.okfrom b h1
    · exact .inr (.inl (Nat.le_trans h.size h1))
    · rcases h.ownfrom b h1 with h2 | h2
      · exact .inr (.inl h2)
      · exact .inr (.inr h2)
  ownfrom b hb := by
    rcases h'.ownfrom b hb with h1 | h1
    · exact .inl (Nat.le_trans h.size h1)
    · exact h.ownfrom b h1
  ext i m hm := h'.ext i m (h.ext i m hm)

theorem Step.av (hr : HR w ok μ hp) (h : Step w ok μ hp w' ok' μ' hp') {v : AV} {x : Value} (hv : AVRel w ok μ v x) : AVRel w' ok' μ' v x :=
  (hv.mono (h.keep hr) h.oksub).ext h.ext
theorem Step.c (hr : HR w ok μ hp) (h : Step w ok μ hp w' ok' μ' hp') {v : C} {x : Value} (hv : CRel w ok μ v x) : CRel w' ok' μ' v x :=
  (hv.mono (h.keep hr) h.oksub).ext h.ext

/-- A block of one's own reads the same where its cells are the same. -/
theorem BRel.mono (hw : ∀ b, ok b → w'.heap[b]? = w.heap[b]?) (ho : ∀ b, ok b → ok' b) (hm : ∀ (i : Nat) m, μ[i]? = some m → μ'[i]? = some m) {blk : Blk} {m : MB} (h : BRel w ok μ blk m)
    (hb : ∀ b, m.own = some b → w'.heap[b]? = w.heap[b]?) : BRel w' ok' μ' blk m := by
  cases blk with
  | box t cs =>
    cases m with
    | box b =>
      obtain ⟨xs, h1, h2⟩ := h
      exact ⟨xs, by rw [hb b rfl]; exact h1, h2.mono fun _ _ h => (h.mono hw ho).ext hm⟩
    | arr => exact h.elim
  | arr e k rows =>
    cases m with
    | box => exact h.elim
    | arr x =>
      obtain ⟨xs, h1, h2, h3⟩ := h
      refine ⟨xs, ⟨h1.1, ?_⟩, h2.mono fun _ _ h => h.mono hw ho, h3⟩
      rcases h1.2 with hn | ⟨g, cap, cur, rfl, hg, hh, r⟩
      · exact .inl hn
      · exact .inr ⟨g, cap, cur, rfl, hg, by rw [hb g rfl]; exact hh, r⟩
  | arj e k c rows =>
    cases m with
    | box => exact h.elim
    | arr x =>
      obtain ⟨h0, h00, h1⟩ := h
      refine ⟨h0, h00, ?_⟩
      rcases h1 with hn | ⟨g, n, cur, rfl, h2, h3, h4, h5, h6⟩
      · exact .inl hn
      · exact .inr ⟨g, n, cur, rfl, by rw [hb g rfl]; exact h2, h3, h4, h5, h6.mono fun _ _ h => h.mono hw ho⟩

/-- What a block of one's own is lies in memory. -/
theorem BRel.lt {blk : Blk} {m : MB} (h : BRel w ok μ blk m) {b : Nat} (hb : m.own = some b) : b < w.heap.size := by
  cases blk with
  | box t cs =>
    cases m with
    | box b' => cases hb; obtain ⟨xs, h1, _⟩ := h; exact (Array.getElem?_eq_some_iff.1 h1).1
    | arr => exact h.elim
  | arr e k rows =>
    cases m with
    | box => exact h.elim
    | arr x => obtain ⟨xs, h1, _⟩ := h; exact (h1.lt b hb).2
  | arj e k c rows =>
    cases m with
    | box => exact h.elim
    | arr x =>
      rcases h.2.2 with ⟨rfl, _⟩ | ⟨g, n, cur, rfl, h2, _⟩
      · cases hb
      · cases hb; exact (Array.getElem?_eq_some_iff.1 h2).1

theorem HR.own_lt (hr : HR w ok μ hp) {b : Nat} (h : OwnL hp μ b) : b < w.heap.size := by
  obtain ⟨i, blk, m, h1, h2, h3⟩ := h
  obtain ⟨m', h4, h5⟩ := hr.rel i blk h1
  rw [h2] at h4; cases h4
  exact h5.lt h3

theorem own_append {hp : Hp} {μ : List MB} (hl : μ.length = hp.length) {x : Option Blk} {m : MB} {b : Nat} (h : OwnL (hp ++ [x]) (μ ++ [m]) b) : OwnL hp μ b ∨ (m.own = some b) := by
  obtain ⟨i, blk, m', h1, h2, h3⟩ := h
  by_cases hi : i < hp.length
  · rw [List.getElem?_append_left hi] at h1
    rw [List.getElem?_append_left (by omega)] at h2
    exact .inl ⟨i, blk, m', h1, h2, h3⟩
  · have : i = hp.length := by have := lt_of_getElem? h1; simp at this; omega
    subst this
    rw [← hl] at h2
    simp at h2; subst h2
    exact .inr h3

/-- A new block, or a block that takes an elder one's place. -/
theorem step_new (hr : HR w ok μ hp) {blk : Blk} {m : MB}
    (hos : w'.os = w.os) (htape : w'.tape = w.tape) (hout : w'.output = w.output) (hsize : w.heap.size ≤ w'.heap.size)
    (hframe : ∀ b, b < w.heap.size → w'.heap[b]? = w.heap[b]?)
    (hm : BRel w' ok (μ ++ [m]) blk m) (hfresh : ∀ b, m.own = some b → w.heap.size ≤ b) : Step w ok μ hp w' ok (μ ++ [m]) (hp ++ [some blk]) := by
  have hext : ∀ (i : Nat) q, μ[i]? = some q → (μ ++ [m])[i]? = some q := fun i q h => by rw [List.getElem?_append_left (lt_of_getElem? h)]; exact h
  have hkeep : ∀ b, ok b → w'.heap[b]? = w.heap[b]? := fun b hb => hframe b (hr.keep hb).1
  refine ⟨⟨by simp [hr.len], ?_, ?_, ?_⟩, hos, htape, hout, hsize, fun b hb _ => hframe b hb, fun _ h => h, fun _ h => .inl h, ?_, hext⟩
  · intro i b hb
    by_cases hi : i < hp.length
    · rw [List.getElem?_append_left hi] at hb
      obtain ⟨q, h1, h2⟩ := hr.rel i b hb
      exact ⟨q, hext i q h1, h2.mono hkeep (fun _ h => h) hext fun b' hb' => hframe b' (h2.lt hb')⟩
    · have : i = hp.length := by have := lt_of_getElem? hb; simp at this; omega
      subst this
      simp at hb; subst hb
      exact ⟨m, by rw [← hr.len]; simp, hm⟩
  · intro i j b c q r k hij hb hc hq hr' hk hk'
    by_cases hi : i < hp.length <;> by_cases hj : j < hp.length
    · rw [List.getElem?_append_left hi] at hb
      rw [List.getElem?_append_left hj] at hc
      rw [List.getElem?_append_left (by rw [hr.len]; exact hi)] at hq
      rw [List.getElem?_append_left (by rw [hr.len]; exact hj)] at hr'
      exact hr.inj i j b c q r k hij hb hc hq hr' hk hk'
    · have : j = hp.length := by have := lt_of_getElem? hc; simp at this; omega
      subst this
      rw [← hr.len] at hr'; simp at hr'; subst hr'
      rw [List.getElem?_append_left hi] at hb
      rw [List.getElem?_append_left (by rw [hr.len]; exact hi)] at hq
      have h1 := hr.own_lt ⟨i, b, q, hb, hq, hk⟩
      have h2 := hfresh k hk'
      omega
    · have : i = hp.length := by have := lt_of_getElem? hb; simp at this; omega
      subst this
      rw [← hr.len] at hq; simp at hq; subst hq
      rw [List.getElem?_append_left hj] at hc
      rw [List.getElem?_append_left (by rw [hr.len]; exact hj)] at hr'
      have h1 := hr.own_lt ⟨j, c, r, hc, hr', hk'⟩
      have h2 := hfresh k hk
      omega
    · have h1 : i = hp.length := by have := lt_of_getElem? hb; simp at this; omega
      have h2 : j = hp.length := by have := lt_of_getElem? hc; simp at this; omega
      omega
  · intro k hk
    refine ⟨Nat.lt_of_lt_of_le (hr.keep hk).1 hsize, fun i b q hb hq ho => ?_⟩
    rcases own_append hr.len ⟨i, b, q, hb, hq, ho⟩ with h1 | h1
    · exact (hr.keep hk).2 h1
    · have := hfresh k h1; have := (hr.keep hk).1; omega
  · intro b hb
    rcases own_append hr.len hb with h1 | h1
    · exact .inr h1
    · exact .inl (hfresh b h1)

theorem getElem?_set_cases {α : Type} {l : List α} {i j : Nat} {a b : α} (h : (l.set i a)[j]? = some b) : (j = i ∧ b = a) ∨ (j ≠ i ∧ l[j]? = some b) := by
  rw [List.getElem?_set] at h
  by_cases hij : i = j
  · subst hij
    simp at h
    exact .inl ⟨rfl, h.2.symm⟩
  · rw [if_neg hij] at h
    exact .inr ⟨fun e => hij e.symm, h⟩

/-- A block of one's own is written in place. -/
theorem step_set (hr : HR w ok μ hp) {i : Nat} {blk blk' : Blk} {m : MB} (hi : hp[i]? = some (some blk)) (hm : μ[i]? = some m)
    (hos : w'.os = w.os) (htape : w'.tape = w.tape) (hout : w'.output = w.output) (hsize : w'.heap.size = w.heap.size)
    (hframe : ∀ b, m.own ≠ some b → w'.heap[b]? = w.heap[b]?)
    (hb : BRel w' ok μ blk' m) : Step w ok μ hp w' ok μ (hp.set i (some blk')) := by
  have hkeep : ∀ b, ok b → w'.heap[b]? = w.heap[b]? := fun b hb => hframe b ((hr.okn b hb).2 i blk m hi hm)
  have hown : ∀ b, OwnL (hp.set i (some blk')) μ b → OwnL hp μ b := by
    rintro b ⟨j, c, q, h1, h2, h3⟩
    rcases getElem?_set_cases h1 with ⟨rfl, _⟩ | ⟨_, h4⟩
    · exact ⟨j, blk, q, hi, h2, h3⟩
    · exact ⟨j, c, q, h4, h2, h3⟩
  refine ⟨⟨by simp [hr.len], ?_, ?_, ?_⟩, hos, htape, hout, by omega, ?_, fun _ h => h, fun _ h => .inl h, fun b h => .inr (hown b h), fun _ _ h => h⟩
  · intro j c hc
    rcases getElem?_set_cases hc with ⟨rfl, h1⟩ | ⟨hj, h4⟩
    · cases h1; exact ⟨m, hm, hb⟩
    · obtain ⟨q, h1, h2⟩ := hr.rel j c h4
      exact ⟨q, h1, h2.mono hkeep (fun _ h => h) (fun _ _ h => h) fun b' hb' => hframe b' (fun e => hr.inj j i c blk q m b' hj h4 hi h1 hm hb' e)⟩
  · intro i1 j1 b c q r k hij h1 h2 hq hr' hk
    have f : ∀ (x : Nat) z, (hp.set i (some blk'))[x]? = some (some z) → ∃ z', hp[x]? = some (some z') := by
      intro x z hx
      rcases getElem?_set_cases hx with ⟨rfl, _⟩ | ⟨_, h4⟩
      · exact ⟨blk, hi⟩
      · exact ⟨z, h4⟩
    obtain ⟨b', hb'⟩ := f _ _ h1
    obtain ⟨c', hc'⟩ := f _ _ h2
    exact hr.inj i1 j1 b' c' q r k hij hb' hc' hq hr' hk
  · intro k hk
    refine ⟨by rw [hsize]; exact (hr.keep hk).1, fun j c q h1 h2 h3 => (hr.keep hk).2 (hown k ⟨j, c, q, h1, h2, h3⟩)⟩
  · intro b hb hn
    exact hframe b fun e => hn ⟨i, blk, m, hi, hm, e⟩

/-- A block of one's own is given up. -/
theorem step_drop (hr : HR w ok μ hp) (i : Nat) : Step w ok μ hp w ok μ (hp.set i none) := by
  have f : ∀ (x : Nat) z, (hp.set i none)[x]? = some (some z) → hp[x]? = some (some z) := by
    intro x z hx
    rcases getElem?_set_cases hx with ⟨rfl, h⟩ | ⟨_, h4⟩
    · cases h
    · exact h4
  have hown : ∀ b, OwnL (hp.set i none) μ b → OwnL hp μ b := fun b ⟨j, c, q, h1, h2, h3⟩ => ⟨j, c, q, f _ _ h1, h2, h3⟩
  refine ⟨⟨by simp [hr.len], fun j c hc => hr.rel j c (f _ _ hc), fun i1 j1 b c q r k hij h1 h2 => hr.inj i1 j1 b c q r k hij (f _ _ h1) (f _ _ h2), fun k hk => ⟨(hr.keep hk).1, fun j c q h1 => (hr.okn k hk).2 j c q (f _ _ h1)⟩⟩,
    rfl, rfl, rfl, Nat.le_refl _, fun _ _ _ => rfl, fun _ h => h, fun _ h => .inl h, fun b h => .inr (hown b h), fun _ _ h => h⟩

/-- A slice of one's own takes another's place (append): its block is the elder one's, or new. -/
theorem step_move (hr : HR w ok μ hp) {i : Nat} {blk blk' : Blk} {m m' : MB} (hi : hp[i]? = some (some blk)) (hm : μ[i]? = some m)
    (hos : w'.os = w.os) (htape : w'.tape = w.tape) (hout : w'.output = w.output) (hsize : w.heap.size ≤ w'.heap.size)
    (hframe : ∀ b, b < w.heap.size → m.own ≠ some b → w'.heap[b]? = w.heap[b]?)
    (hb : BRel w' ok (μ ++ [m']) blk' m') (hfrom : ∀ b, m'.own = some b → m.own = some b ∨ w.heap.size ≤ b) : Step w ok μ hp w' ok (μ ++ [m']) (hp.set i none ++ [some blk']) := by
  have hext : ∀ (i : Nat) q, μ[i]? = some q → (μ ++ [m'])[i]? = some q := fun i q h => by rw [List.getElem?_append_left (lt_of_getElem? h)]; exact h
  have hkeep : ∀ b, ok b → w'.heap[b]? = w.heap[b]? := fun b hb => hframe b (hr.keep hb).1 ((hr.okn b hb).2 i blk m hi hm)
  have hlen : (hp.set i none).length = hp.length := by simp
  -- an entry of the new list
  have f : ∀ (x : Nat) z, (hp.set i none ++ [some blk'])[x]? = some (some z) → (x < hp.length ∧ x ≠ i ∧ hp[x]? = some (some z)) ∨ (x = hp.length ∧ z = blk') := by
    intro x z hx
    by_cases hxl : x < hp.length
    · rw [List.getElem?_append_left (by simpa using hxl)] at hx
      rcases getElem?_set_cases hx with ⟨rfl, h⟩ | ⟨h3, h4⟩
      · cases h
      · exact .inl ⟨hxl, h3, h4⟩
    · have : x = hp.length := by have := lt_of_getElem? hx; simp at this; omega
      subst this
      rw [← hlen] at hx
      simp only [List.getElem?_append_right (Nat.le_refl _), Nat.sub_self, List.getElem?_cons_zero] at hx
      cases hx; exact .inr ⟨rfl, rfl⟩
  have fm : ∀ (x : Nat) q, x < hp.length → (μ ++ [m'])[x]? = some q → μ[x]? = some q := fun x q h1 h2 => by rwa [List.getElem?_append_left (by rw [hr.len]; exact h1)] at h2
  have fl : ∀ q, (μ ++ [m'])[hp.length]? = some q → q = m' := fun q h => by rw [← hr.len] at h; simpa using h.symm
  have hown : ∀ b, OwnL (hp.set i none ++ [some blk']) (μ ++ [m']) b → w.heap.size ≤ b ∨ OwnL hp μ b := by
    rintro b ⟨j, c, q, h1, h2, h3⟩
    rcases f j c h1 with ⟨h4, _, h5⟩ | ⟨rfl, rfl⟩
    · exact .inr ⟨j, c, q, h5, fm j q h4 h2, h3⟩
    · obtain rfl := fl q h2
      rcases hfrom b h3 with h6 | h6
      · exact .inr ⟨i, blk, m, hi, hm, h6⟩
      · exact .inl h6
  refine ⟨⟨by simp [hr.len], ?_, ?_, ?_⟩, hos, htape, hout, hsize, ?_, fun _ h => h, fun _ h => .inl h, hown, hext⟩
  · intro j c hc
    rcases f j c hc with ⟨h4, h6, h5⟩ | ⟨rfl, rfl⟩
    · obtain ⟨q, h1, h2⟩ := hr.rel j c h5
      exact ⟨q, hext j q h1, h2.mono hkeep (fun _ h => h) hext fun b' hb' => hframe b' (h2.lt hb') fun e => hr.inj j i c blk q m b' h6 h5 hi h1 hm hb' e⟩
    · exact ⟨m', by rw [← hr.len]; simp, hb⟩
  · intro i1 j1 b c q r k hij h1 h2 hq hr' hk hk'
    rcases f i1 b h1 with ⟨a1, a2, a3⟩ | ⟨rfl, rfl⟩ <;> rcases f j1 c h2 with ⟨b1, b2, b3⟩ | ⟨rfl, rfl⟩
    · exact hr.inj i1 j1 b c q r k hij a3 b3 (fm _ _ a1 hq) (fm _ _ b1 hr') hk hk'
    · obtain rfl := fl r hr'
      have hq' := fm _ _ a1 hq
      rcases hfrom k hk' with h6 | h6
      · exact hr.inj i1 i b blk q m k a2 a3 hi hq' hm hk h6
      · have := hr.own_lt ⟨i1, b, q, a3, hq', hk⟩; omega
    · obtain rfl := fl q hq
      have hq' := fm _ _ b1 hr'
      rcases hfrom k hk with h6 | h6
      · exact hr.inj j1 i c blk r m k b2 b3 hi hq' hm hk' h6
      · have := hr.own_lt ⟨j1, c, r, b3, hq', hk'⟩; omega
    · exact hij rfl
  · intro k hk
    refine ⟨Nat.lt_of_lt_of_le (hr.keep hk).1 hsize, fun j c q h1 h2 h3 => ?_⟩
    rcases hown k ⟨j, c, q, h1, h2, h3⟩ with h4 | h4
    · have := (hr.keep hk).1; omega
    · exact (hr.keep hk).2 h4
  · intro b hb hn
    exact hframe b hb fun e => hn ⟨i, blk, m, hi, hm, e⟩

/-- A block of one's own becomes plain data: nobody writes it any more. -/
theorem step_freeze (hr : HR w ok μ hp) {i : Nat} {m : MB} (hi : ∃ blk, hp[i]? = some (some blk)) (hm : μ[i]? = some m) : Step w ok μ hp w (fun b => ok b ∨ m.own = some b) μ (hp.set i none) := by
  obtain ⟨blk, hi⟩ := hi
  have f : ∀ (x : Nat) z, (hp.set i none)[x]? = some (some z) → x ≠ i ∧ hp[x]? = some (some z) := by
    intro x z hx
    rcases getElem?_set_cases hx with ⟨rfl, h⟩ | ⟨h3, h4⟩
    · cases h
    · exact ⟨h3, h4⟩
  have hown : ∀ b, OwnL (hp.set i none) μ b → OwnL hp μ b := fun b ⟨j, c, q, h1, h2, h3⟩ => ⟨j, c, q, (f _ _ h1).2, h2, h3⟩
  refine ⟨⟨by simp [hr.len], fun j c hc => ?_, fun i1 j1 b c q r k hij h1 h2 => hr.inj i1 j1 b c q r k hij (f _ _ h1).2 (f _ _ h2).2, fun k hk => ?_⟩,
    rfl, rfl, rfl, Nat.le_refl _, fun _ _ _ => rfl, fun _ h => .inl h, fun b h => ?_, fun b h => .inr (hown b h), fun _ _ h => h⟩
  · obtain ⟨q, h1, h2⟩ := hr.rel j c (f _ _ hc).2
    exact ⟨q, h1, h2.mono (fun _ _ => rfl) (fun _ h => .inl h) (fun _ _ h => h) fun _ _ => rfl⟩
  · rcases hk with hk | hk
    · exact ⟨(hr.keep hk).1, fun j c q h1 => (hr.okn k hk).2 j c q (f _ _ h1).2⟩
    · refine ⟨hr.own_lt ⟨i, blk, m, hi, hm, hk⟩, fun j c q h1 h2 h3 => ?_⟩
      exact hr.inj j i c blk q m k (f _ _ h1).1 (f _ _ h1).2 hi h2 hm h3 hk
  · rcases h with h | h
    · exact .inl h
    · exact .inr (.inr ⟨i, blk, m, hi, hm, h⟩)

end
end Go.Proofs.AE
