/- The abstract evaluator, part 15b: calls that hand on blocks of the caller's. -/
import Derived.Test.YtniihihcklpdgaaAeCall
set_option linter.unusedVariables false
set_option linter.unusedSimpArgs false
namespace Go.Proofs.AE
open Go Go.RowKit

/-! ### other numbers -/
def renC (σ : Nat → Nat) : C → C
  | .ptr i off => .ptr (σ i) off
  | .eptr i r k off => .eptr (σ i) r k off
  | .ar i => .ar (σ i)
  | .sub i k off len => .sub (σ i) k off len
  | c => c
mutual
def renAV (σ : Nat → Nat) : AV → AV
  | .one c => .one (renC σ c)
  | .agg cs => .agg (cs.map (renC σ))
  | .tup l => .tup (renAVs σ l)
  | .fn f a b => .fn f (a.map (renC σ)) (b.map (renC σ))
  | .any => .any
def renAVs (σ : Nat → Nat) : List AV → List AV
  | [] => []
  | v :: l => renAV σ v :: renAVs σ l
end
def renO (σ : Nat → Nat) : Option Blk → Option Blk
  | some (.box t cs) => some (.box t (cs.map (renC σ)))
  | b => b

/-- The first place of a number. -/
def posOf (q : Nat) : List Nat → Option Nat
  | [] => none
  | a :: r => if a = q then some 0 else (posOf q r).map (· + 1)

/-- The number of a callee's block at the caller: the first k are the caller's, the others are new. -/
def sig (ρ : List Nat) (k d : Nat) (i : Nat) : Nat := if i < k then ρ.getD i 0 else d + (i - k)

/-- The caller's blocks behind the call. -/
def mrg (ρ : List Nat) (k : Nat) (σ : Nat → Nat) (hp' : Hp) : Nat → Hp → Hp
  | _, [] => []
  | q, b :: r => (match posOf q ρ with | some i => if i < k then renO σ (hp'.getD i none) else none | none => b) :: mrg ρ k σ hp' (q + 1) r

def mergeH (hpc : Hp) (ρ : List Nat) (k : Nat) (hp' : Hp) : Hp := mrg ρ k (sig ρ k hpc.length) hp' 0 hpc ++ (hp'.drop k).map (renO (sig ρ k hpc.length))

section
variable {P : Program} {G : Nat → AV} {k n : Nat} {w w' : World} {ok ok' : Nat → Prop} {μ μ' : List MB} {hp hp' : Hp} {σ : Nat → Nat}

theorem renC_rel (h : ∀ (i : Nat) m, μ[i]? = some m → μ'[σ i]? = some m) {c : C} {x : Value} (hr : CRel w ok μ c x) : CRel w ok μ' (renC σ c) x := by
  cases hr with
  | v h1 => exact .v h1
  | ptr off h1 => exact .ptr off (h _ _ h1)
  | eptr r k off h1 => exact .eptr r k off (h _ _ h1)
  | ar h1 h2 => exact .ar (h _ _ h1) h2
  | sub k off len h1 hs => exact .sub k off len (h _ _ h1) hs
  | vptr b off cv a b' c => exact .vptr _ _ _ a b' c
  | full h1 => exact .full h1
  | nil => exact .nil
  | any h1 => exact .any h1
theorem renCs_rel (h : ∀ (i : Nat) m, μ[i]? = some m → μ'[σ i]? = some m) {cs : List C} {xs : List Value} (hr : All2 (CRel w ok μ) cs xs) : All2 (CRel w ok μ') (cs.map (renC σ)) xs := by
  induction hr with
  | nil => exact .nil
  | cons h1 _ ih => exact .cons (renC_rel h h1) ih
mutual
theorem renAV_rel (h : ∀ (i : Nat) m, μ[i]? = some m → μ'[σ i]? = some m) : ∀ {v : AV} {x : Value}, AVRel w ok μ v x → AVRel w ok μ' (renAV σ v) x
  | .one _, _, .one h1 => .one (renC_rel h h1)
  | .agg _, _, .agg h1 => .agg (renCs_rel h h1)
  | .tup _, _, .tup h1 => .tup (renAVs_rel h h1)
  | .fn _ _ _, _, .fn h1 h2 => .fn (renCs_rel h h1) (renCs_rel h h2)
  | .any, _, _ => .any
theorem renAVs_rel (h : ∀ (i : Nat) m, μ[i]? = some m → μ'[σ i]? = some m) : ∀ {l : List AV} {xs : List Value}, AVRels w ok μ l xs → AVRels w ok μ' (renAVs σ l) xs
  | [], _, .nil => .nil
  | _ :: _, _, .cons h1 t => .cons (renAV_rel h h1) (renAVs_rel h t)
end

theorem renO_rel (h : ∀ (i : Nat) m, μ[i]? = some m → μ'[σ i]? = some m) {b b' : Blk} {m : MB} (he : renO σ (some b) = some b') (hb : BRel w ok μ b m) : BRel w ok μ' b' m := by
  cases b with
  | box t cs =>
    simp only [renO, Option.some.injEq] at he; subst he
    cases m with
    | box q => obtain ⟨xs, g1, g2⟩ := hb; exact ⟨xs, g1, renCs_rel h g2⟩
    | arr => exact hb.elim
  | arr e kk rows =>
    simp only [renO, Option.some.injEq] at he; subst he
    cases m with
    | box q => exact hb.elim
    | arr x => exact hb
  | arj e kk n rows =>
    simp only [renO, Option.some.injEq] at he; subst he
    cases m with
    | box q => exact hb.elim
    | arr x => exact hb

theorem posOf_spec {q : Nat} : ∀ {ρ : List Nat} {i : Nat}, posOf q ρ = some i → ρ[i]? = some q
  | [], i, h => by simp [posOf] at h
  | a :: r, i, h => by
    unfold posOf at h
    split at h
    · rename_i e; cases h; simpa using e
    · obtain ⟨j, hj, rfl⟩ := Option.map_eq_some_iff.1 h
      simpa using posOf_spec hj
theorem posOf_none {q : Nat} : ∀ {ρ : List Nat}, posOf q ρ = none → q ∉ ρ
  | [], _ => by simp
  | a :: r, h => by
    unfold posOf at h
    split at h
    · cases h
    · rename_i e
      have := posOf_none (by simpa using h : posOf q r = none)
      simp; exact ⟨fun e' => e e'.symm, this⟩

theorem mrg_length (ρ : List Nat) (k : Nat) (hp' : Hp) : ∀ (q : Nat) (hpc : Hp), (mrg ρ k σ hp' q hpc).length = hpc.length
  | _, [] => rfl
  | q, _ :: r => by simp [mrg, mrg_length ρ k hp' (q + 1) r]

theorem mrg_get (ρ : List Nat) (k : Nat) (hp' : Hp) : ∀ (hpc : Hp) (q j : Nat), (mrg ρ k σ hp' q hpc)[j]? = (hpc[j]?).map fun b => match posOf (q + j) ρ with | some i => if i < k then renO σ (hp'.getD i none) else none | none => b
  | [], q, j => by simp [mrg]
  | b :: r, q, 0 => by simp [mrg]
  | b :: r, q, j + 1 => by
    simp only [mrg, List.getElem?_cons_succ]
    rw [mrg_get ρ k hp' r (q + 1) j, show q + 1 + j = q + (j + 1) by omega]

/-- What stands at a place of the caller's blocks behind the call. -/
theorem mergeH_get {hpc : Hp} {ρ : List Nat} {q : Nat} {b : Blk} (hlen : ρ.length = hp.length) (hk : k ≤ hp.length) (h : (mergeH hpc ρ k hp')[q]? = some (some b)) :
    (hpc[q]? = some (some b) ∧ q ∉ ρ) ∨ ∃ i b0, hp'[i]? = some (some b0) ∧ renO (sig ρ k hpc.length) (some b0) = some b ∧ q = sig ρ k hpc.length i ∧ (i < k → q < hpc.length) ∧ (k ≤ i → hpc.length ≤ q) := by
  unfold mergeH at h
  by_cases hq : q < hpc.length
  · rw [List.getElem?_append_left (by rw [mrg_length]; exact hq), mrg_get, List.getElem?_eq_getElem hq] at h
    simp only [Option.map_some, Nat.zero_add, Option.some.injEq] at h
    split at h
    · rename_i i hi
      split at h
      · rename_i hik
        right
        cases hb : hp'.getD i none with
        | none => rw [hb] at h; simp [renO] at h
        | some b0 =>
          have hb' : hp'[i]? = some (some b0) := by
            rw [List.getD_eq_getElem?_getD] at hb
            cases hx : hp'[i]? with
            | none => rw [hx] at hb; simp at hb
            | some y => rw [hx] at hb; simpa using hb
          rw [hb] at h
          have hs := posOf_spec hi
          refine ⟨i, b0, hb', h, ?_, fun _ => hq, fun hki => by omega⟩
          simp [sig, hik, List.getD_eq_getElem?_getD, hs]
      · cases h
    · rename_i hn
      exact .inl ⟨by rw [List.getElem?_eq_getElem hq, h], posOf_none hn⟩
  · right
    rw [List.getElem?_append_right (by rw [mrg_length]; omega), mrg_length, List.getElem?_map, List.getElem?_drop] at h
    cases hx : hp'[k + (q - hpc.length)]? with
    | none => rw [hx] at h; simp at h
    | some y =>
      rw [hx] at h
      cases y with
      | none => simp [renO] at h
      | some b0 =>
        refine ⟨_, b0, hx, by simpa using h, ?_, fun hi => by omega, fun _ => by omega⟩
        unfold sig
        rw [if_neg (by omega)]; omega

/-- A view of some of the caller's blocks. -/
theorem view_sub {hpc : Hp} {ρ : List Nat} (hr : HR w ok μ hpc) (hlen : ρ.length = hp.length) (hnd : ρ.Nodup) (hh : coeH hpc [] ρ 0 hp) :
    View w ok μ hpc [] ρ ok (ρ.map fun j => μ.getD j (.box 0)) ∧ HR w ok (ρ.map fun j => μ.getD j (.box 0)) hp ∧ ∀ b, OwnL hp (ρ.map fun j => μ.getD j (.box 0)) b → ∃ (j : Nat) (blk : Blk) (m : MB), j ∈ ρ ∧ hpc[j]? = some (some blk) ∧ μ[j]? = some m ∧ m.own = some b := by
  have hμ : ∀ (i j : Nat) m, ρ[i]? = some j → μ[j]? = some m → (ρ.map fun j => μ.getD j (.box 0))[i]? = some m := by
    intro i j m h1 h2
    rw [List.getElem?_map, h1]
    simp [List.getD, h2]
  have hinv : ∀ (i : Nat) b, hp[i]? = some (some b) → ∃ j b', ρ[i]? = some j ∧ hpc[j]? = some (some b') ∧ coeB hpc [] ρ b b' := by
    intro i b h; have := coeH_get hh i b h; rwa [Nat.zero_add] at this
  have hm : ∀ (i j : Nat) m, ρ[i]? = some j → (∃ b, hpc[j]? = some (some b)) → (ρ.map fun j => μ.getD j (.box 0))[i]? = some m → μ[j]? = some m := by
    intro i j m h1 ⟨b, hb⟩ h2
    obtain ⟨q, hq, _⟩ := hr.rel j b hb
    rw [List.getElem?_map, h1] at h2
    simp [List.getD, hq] at h2
    rw [hq, h2]
  have hown : ∀ b, OwnL hp (ρ.map fun j => μ.getD j (.box 0)) b → ∃ (j : Nat) (blk : Blk) (m : MB), j ∈ ρ ∧ hpc[j]? = some (some blk) ∧ μ[j]? = some m ∧ m.own = some b := by
    rintro b ⟨i, blk, m, h1, h2, h3⟩
    obtain ⟨j, b', g1, g2, g3⟩ := hinv i blk h1
    exact ⟨j, b', m, List.mem_of_getElem? g1, g2, hm i j m g1 ⟨b', g2⟩ h2, h3⟩
  have hv : View w ok μ hpc [] ρ ok (ρ.map fun j => μ.getD j (.box 0)) := ⟨hr, hμ, fun b h => h, fun i m b h1 => by simp at h1⟩
  refine ⟨hv, ⟨by simp [hlen], ?_, ?_, ?_⟩, hown⟩
  · intro i b hb
    obtain ⟨j, b', g1, g2, g3⟩ := hinv i b hb
    obtain ⟨m, q1, q2⟩ := hr.rel j b' g2
    exact ⟨m, hμ i j m g1 q1, coeB_rel hv g3 q2⟩
  · intro i j b c m q kk hij hb hc hm1 hm2 ho
    obtain ⟨i', b', g1, g2, _⟩ := hinv i b hb
    obtain ⟨j', c', e1, e2, _⟩ := hinv j c hc
    have hne : i' ≠ j' := fun e => hij (getElem?_nodup hnd g1 (e ▸ e1))
    exact hr.inj i' j' b' c' m q kk hne g2 e2 (hm i i' m g1 ⟨b', g2⟩ hm1) (hm j j' q e1 ⟨c', e2⟩ hm2) ho
  · intro kk hkk
    refine ⟨(hr.keep hkk).1, fun i b m h1 h2 h3 => ?_⟩
    obtain ⟨j, blk, m', _, e1, e2, e3⟩ := hown kk ⟨i, b, m, h1, h2, h3⟩
    exact (hr.okn kk hkk).2 j blk m' e1 e2 e3

theorem gcall_sub {f : Nat} {hpc : Hp} {ρ : List Nat} {args argsc : List AV} {K : AV → Hp → Prop} (h : GCall P G f k hp args K) (hlen : ρ.length = hp.length) (hk : k ≤ hp.length) (hnd : ρ.Nodup) (hlt : ∀ j ∈ ρ, j < hpc.length)
    (hh : coeH hpc [] ρ 0 hp) (ha : coeAVs hpc [] ρ args argsc) : ACall P G f hpc argsc fun r1 hp1 => ∃ r hp', K r hp' ∧ r1 = renAV (sig ρ k hpc.length) r ∧ hp1 = mergeH hpc ρ k hp' := by
  intro w ok μ xs hr hg hargs
  obtain ⟨hv, hr0, hown⟩ := view_sub hr hlen hnd hh
  refine (h w ok _ xs hr0 hg (coeAVs_rel hv ha hargs)).mono ?_
  rintro e w' ⟨x, r, hp', ok', μ', rfl, hf, hrel, hK⟩
  generalize hμ0 : (ρ.map fun j => μ.getD j (.box 0)) = μ0 at *
  have hμ0len : μ0.length = hp.length := hr0.len
  have hownc : ∀ b, OwnL hp μ0 b → OwnL hpc μ b := fun b h => let ⟨j, blk, m, _, h2, h3, h4⟩ := hown b h; ⟨j, blk, m, h2, h3, h4⟩
  -- the new places
  have hext : ∀ (i : Nat) m, μ[i]? = some m → (μ ++ μ'.drop k)[i]? = some m := fun i m h => by rw [List.getElem?_append_left (lt_of_getElem? h)]; exact h
  have hsig : ∀ (i : Nat) m, μ'[i]? = some m → (μ ++ μ'.drop k)[sig ρ k hpc.length i]? = some m := by
    intro i m hi
    unfold sig
    split
    · rename_i hik
      have h1 : i < ρ.length := by omega
      have h2 : μ0[i]? = some (μ0[i]'(by omega)) := List.getElem?_eq_getElem _
      have h3 := hf.ext i _ hik h2
      rw [hi] at h3
      have hj : ρ[i]? = some ρ[i] := List.getElem?_eq_getElem h1
      have hjlt := hlt _ (List.mem_of_getElem? hj)
      have h4 : μ[ρ[i]]? = some (μ[ρ[i]]'(by rw [hr.len]; exact hjlt)) := List.getElem?_eq_getElem _
      have h5 := hv.hμ i _ _ hj h4
      rw [h2, ← h3] at h5
      have h6 := hext _ _ h4
      rw [List.getD_eq_getElem?_getD, hj, Option.getD_some, h6]; exact h5.symm
    · rename_i hik
      rw [List.getElem?_append_right (by rw [hr.len]; omega), hr.len, List.getElem?_drop, show k + (hpc.length + (i - k) - hpc.length) = i by omega]; exact hi
  have hsame : ∀ b, b < w.heap.size → ¬ OwnL hp μ0 b → w'.heap[b]? = w.heap[b]? := hf.frame
  have hokw : ∀ b, ok b → w'.heap[b]? = w.heap[b]? := fun b hb => hsame b (hr0.keep hb).1 (hr0.keep hb).2
  -- a block that was not handed on
  have hother : ∀ (q : Nat) b m c, hpc[q]? = some (some b) → q ∉ ρ → μ[q]? = some m → m.own = some c → ¬ OwnL hp μ0 c := by
    intro q b m c h1 h2 h3 h4 h5
    obtain ⟨j, blk, m', e0, e1, e2, e3⟩ := hown c h5
    exact hr.inj q j b blk m m' c (fun e => h2 (e ▸ e0)) h1 e1 h3 e2 h4 e3
  have hμlen : (μ ++ μ'.drop k).length = (mergeH hpc ρ k hp').length := by
    simp [mergeH, mrg_length, hr.len, hf.hr.len]
  -- what stands at a place, and where
  have hcase : ∀ (q : Nat) b, (mergeH hpc ρ k hp')[q]? = some (some b) →
      (hpc[q]? = some (some b) ∧ q ∉ ρ ∧ ∃ m, μ[q]? = some m ∧ (μ ++ μ'.drop k)[q]? = some m ∧ BRel w ok μ b m) ∨
      ∃ i b0 m, hp'[i]? = some (some b0) ∧ renO (sig ρ k hpc.length) (some b0) = some b ∧ q = sig ρ k hpc.length i ∧ μ'[i]? = some m ∧ (μ ++ μ'.drop k)[q]? = some m ∧ BRel w' ok' μ' b0 m := by
    intro q b hq
    rcases mergeH_get (hp := hp) hlen hk hq with ⟨h1, h2⟩ | ⟨i, b0, h1, h2, h3, _, _⟩
    · obtain ⟨m, h3, h4⟩ := hr.rel q b h1
      exact .inl ⟨h1, h2, m, h3, hext _ _ h3, h4⟩
    · obtain ⟨m, h4, h5⟩ := hf.hr.rel i b0 h1
      exact .inr ⟨i, b0, m, h1, h2, h3, h4, h3 ▸ hsig _ _ h4, h5⟩
  have hownm : ∀ b, OwnL (mergeH hpc ρ k hp') (μ ++ μ'.drop k) b → (∃ (q : Nat) (blk : Blk) (m : MB), hpc[q]? = some (some blk) ∧ q ∉ ρ ∧ μ[q]? = some m ∧ m.own = some b) ∨ OwnL hp' μ' b := by
    rintro b ⟨q, blk, m, h1, h2, h3⟩
    rcases hcase q blk h1 with ⟨e1, e2, m', e3, e4, e5⟩ | ⟨i, b0, m', e1, e2, e3, e4, e5, e6⟩
    · rw [h2] at e4; cases e4; exact .inl ⟨q, blk, m, e1, e2, e3, h3⟩
    · rw [h2] at e5; cases e5; exact .inr ⟨i, b0, m, e1, e4, h3⟩
  refine ⟨x, _, _, ok', μ ++ μ'.drop k, rfl, ⟨⟨hμlen, ?_, ?_, ?_⟩, hf.os, hf.tape, hf.output, hf.size, fun b hb hn => hsame b hb fun h => hn (hownc b h), hf.oksub, ?_, ?_, hext⟩, renAV_rel hsig hrel, r, hp', hK, rfl, rfl⟩
  · intro q b hq
    rcases hcase q b hq with ⟨e1, e2, m, e3, e4, e5⟩ | ⟨i, b0, m, e1, e2, e3, e4, e5, e6⟩
    · refine ⟨m, e4, e5.mono hokw hf.oksub hext fun c hc => hsame c (e5.lt hc) (hother q b m c e1 e2 e3 hc)⟩
    · exact ⟨m, e5, renO_rel hsig e2 e6⟩
  · intro q1 q2 b c m1 m2 z hne hb hc hm1 hm2 hz hz'
    rcases hcase q1 b hb with ⟨a1, a2, m, a3, a4, a5⟩ | ⟨i, b0, m, a1, a2, a3, a4, a5, a6⟩ <;> rcases hcase q2 c hc with ⟨c1, c2, m', c3, c4, c5⟩ | ⟨i', b0', m', c1, c2, c3, c4, c5, c6⟩
    · rw [a4] at hm1; cases hm1; rw [c4] at hm2; cases hm2
      exact hr.inj q1 q2 b c m1 m2 z hne a1 c1 a3 c3 hz hz'
    · rw [a4] at hm1; cases hm1; rw [c5] at hm2; cases hm2
      rcases hf.ownfrom z ⟨i', b0', m2, c1, c4, hz'⟩ with h | h
      · have := a5.lt hz; omega
      · exact hother q1 b m1 z a1 a2 a3 hz h
    · rw [a5] at hm1; cases hm1; rw [c4] at hm2; cases hm2
      rcases hf.ownfrom z ⟨i, b0, m1, a1, a4, hz⟩ with h | h
      · have := c5.lt hz'; omega
      · exact hother q2 c m2 z c1 c2 c3 hz' h
    · rw [a5] at hm1; cases hm1; rw [c5] at hm2; cases hm2
      have : i ≠ i' := fun e => hne (by rw [a3, c3, e])
      exact hf.hr.inj i i' b0 b0' m1 m2 z this a1 c1 a4 c4 hz hz'
  · intro z hz
    refine ⟨(hf.hr.okn z hz).1, fun q b m hq hm hz' => ?_⟩
    rcases hownm z ⟨q, b, m, hq, hm, hz'⟩ with ⟨q', blk, m', e1, e2, e3, e4⟩ | e
    · rcases hf.okfrom z hz with h | h | h
      · exact (hr.okn z h).2 q' blk m' e1 e3 e4
      · have := hr.own_lt ⟨q', blk, m', e1, e3, e4⟩; omega
      · exact hother q' blk m' z e1 e2 e3 e4 h
    · obtain ⟨i, b0, m0, e1, e2, e3⟩ := e
      exact (hf.hr.okn z hz).2 i b0 m0 e1 e2 e3
  · intro z hz
    rcases hf.okfrom z hz with h | h | h
    · exact .inl h
    · exact .inr (.inl h)
    · exact .inr (.inr (hownc z h))
  · intro z hz
    rcases hownm z hz with ⟨q', blk, m', e1, e2, e3, e4⟩ | e
    · exact .inr ⟨q', blk, m', e1, e3, e4⟩
    · rcases hf.ownfrom z e with h | h
      · exact .inl h
      · exact .inr (hownc z h)
end
end Go.Proofs.AE
