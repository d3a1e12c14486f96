/- The abstract evaluator, part 12b: arrays of one's own become plain data, where they are needed as such. -/
import Derived.Test.YtniihihcklpdgaaAeIR
set_option linter.unusedVariables false
set_option linter.unusedSimpArgs false
namespace Go.Proofs.AE
open Go Go.RowKit

def frC (i : Nat) (rows : List (List V)) : C → C
  | .ar j => if j = i then .v (.sl rows) else .ar j
  | .eptr j r k off => if j = i then .any else .eptr j r k off
  | c => c

mutual
def frAV (i : Nat) (rows : List (List V)) : AV → AV
  | .one c => .one (frC i rows c)
  | .agg cs => .agg (cs.map (frC i rows))
  | .tup l => .tup (frAVs i rows l)
  | .fn f a b => .fn f (a.map (frC i rows)) (b.map (frC i rows))
  | .any => .any
def frAVs (i : Nat) (rows : List (List V)) : List AV → List AV
  | [] => []
  | v :: l => frAV i rows v :: frAVs i rows l
end

def frB (i : Nat) (rows : List (List V)) : Option Blk → Option Blk
  | some (.box t cs) => some (.box t (cs.map (frC i rows)))
  | b => b

def frF (i : Nat) (rows : List (List V)) : List (Nat × AV) → List (Nat × AV)
  | [] => []
  | (t, v) :: r => (t, frAV i rows v) :: frF i rows r

def frz1 (i : Nat) (s : S) : S :=
  match s.hp[i]? with
  | some (some (.arr _ _ rows)) => ⟨frF i rows s.fr, s.gl, (s.hp.set i none).map (frB i rows)⟩
  | _ => s

def frz : List Nat → S → S
  | [], s => s
  | i :: l, s => frz l (frz1 i s)

/-- The arrays of one's own that a value names. -/
def arsCs : List C → List Nat
  | [] => []
  | .ar i :: r => i :: arsCs r
  | _ :: r => arsCs r
def arsAV : AV → List Nat
  | .one (.ar i) => [i]
  | .agg cs => arsCs cs
  | _ => []
def arsOf (ev : Operand → AV) : List Operand → List Nat
  | [] => []
  | x :: r => arsAV (ev x) ++ arsOf ev r

/-- The operands behind the first one of a store or an append: what is written. -/
def opsOf : Op → List Operand
  | .store _ _ x => [x]
  | .slice _ x _ _ _ => [x]
  | .build _ parts => parts.toList.map (·.2)
  | .buildSlice _ _ parts => parts.toList.map (·.2)
  | .call { callee := .builtin _, args := args, argTypes := _ } => args.toList.drop 1
  | .call { callee := .value _, args := args, argTypes := _ } => args.toList
  | .convert _ _ x => [x]
  | op => []

section
variable {P : Program} {n : Nat} {w : World} {ok ok' : Nat → Prop} {μ : List MB} {s : S} {a : Act} {i : Nat} {rows : List (List V)}

theorem vrel_of_arr {ok0 : Nat → Prop} {e kk : Nat} {rows : List (List V)} {x : Value} (h : BRel w ok μ (.arr e kk rows) (.arr x)) (ho : ∀ b, ok b → ok0 b) (hx : ∀ b, x.ownBlock = some b → ok0 b) : VRel w ok0 (.sl rows) x := by
  rcases arr_rows h with ⟨rfl, rfl⟩ | ⟨b, off, cap, rfl, hle, hmx, hc⟩
  · exact .nil
  · refine .sl rows b off cap (fun i j => match rows[i]? with | some row => (w.cell? ⟨b, off + (i * row.length + j), none⟩).getD undef | none => undef) (fun _ => hx b rfl) hle hmx ?_ ?_
    · intro i row j v hi hj
      obtain ⟨y, hy, hr⟩ := hc i row j v hi hj
      simp [hi, hy]
    · intro i row j v hi hj
      obtain ⟨y, hy, hr⟩ := hc i row j v hi hj
      simp only [hi, hy, Option.getD_some]
      exact hr.mono (fun _ _ => rfl) ho

theorem frC_rel (ho : ∀ b, ok b → ok' b) (hx : ∀ x, μ[i]? = some (.arr x) → VRel w ok' (.sl rows) x) {c : C} {x : Value} (h : CRel w ok μ c x) : CRel w ok' μ (frC i rows c) x := by
  have hm : CRel w ok' μ c x := h.mono (fun _ _ => rfl) ho
  unfold frC
  split
  · rename_i j
    split
    · rename_i e; subst e
      cases h with | ar hμ h1 => exact .v (hx _ hμ)
    · exact hm
  · split
    · exact .any h.oneCell
    · exact hm
  · exact hm

theorem frCs_rel (ho : ∀ b, ok b → ok' b) (hx : ∀ x, μ[i]? = some (.arr x) → VRel w ok' (.sl rows) x) {cs : List C} {xs : List Value} (h : All2 (CRel w ok μ) cs xs) : All2 (CRel w ok' μ) (cs.map (frC i rows)) xs := by
  induction h with
  | nil => exact .nil
  | cons h _ ih => exact .cons (frC_rel ho hx h) ih

mutual
theorem frAV_rel (ho : ∀ b, ok b → ok' b) (hx : ∀ x, μ[i]? = some (.arr x) → VRel w ok' (.sl rows) x) : ∀ {v : AV} {x : Value}, AVRel w ok μ v x → AVRel w ok' μ (frAV i rows v) x
  | .one _, _, .one h => .one (frC_rel ho hx h)
  | .agg _, _, .agg h => .agg (frCs_rel ho hx h)
  | .tup _, _, .tup h => .tup (frAVs_rel ho hx h)
  | .fn _ _ _, _, .fn h h' => .fn (frCs_rel ho hx h) (frCs_rel ho hx h')
  | .any, _, _ => .any
theorem frAVs_rel (ho : ∀ b, ok b → ok' b) (hx : ∀ x, μ[i]? = some (.arr x) → VRel w ok' (.sl rows) x) : ∀ {l : List AV} {xs : List Value}, AVRels w ok μ l xs → AVRels w ok' μ (frAVs i rows l) xs
  | [], _, .nil => .nil
  | _ :: _, _, .cons h t => .cons (frAV_rel ho hx h) (frAVs_rel ho hx t)
end

theorem frF_get : ∀ (fr : List (Nat × AV)) (t : Nat), getF (frF i rows fr) t = frAV i rows (getF fr t)
  | [], t => by simp [frF, getF, frAV]
  | (u, v) :: r, t => by
    simp only [frF, getF]
    split
    · rfl
    · exact frF_get r t

theorem frz1_st (hst : St n w ok μ s a) : ∃ ok', St n w ok' μ (frz1 i s) a ∧ Step w ok μ s.hp w ok' μ (frz1 i s).hp := by
  unfold frz1
  split
  · rename_i e k rows hi
    obtain ⟨m, hm, hb⟩ := hst.hr.rel _ _ hi
    cases m with
    | box b => exact hb.elim
    | arr y =>
    have s1 := step_freeze hst.hr ⟨_, hi⟩ hm
    have hx : ∀ x, μ[i]? = some (.arr x) → VRel w (fun b => ok b ∨ (MB.arr y).own = some b) (.sl rows) x := by
      intro x hx
      rw [hm] at hx; cases hx
      exact vrel_of_arr hb (fun _ h => .inl h) fun b hb' => .inr hb'
    have ho : ∀ b, ok b → (ok b ∨ (MB.arr y).own = some b) := fun _ h => .inl h
    -- the boxes' cells turn
    have hr' : HR w (fun b => ok b ∨ (MB.arr y).own = some b) μ ((s.hp.set i none).map (frB i rows)) := by
      have h0 := s1.hr
      have inv : ∀ (j : Nat) b, ((s.hp.set i none).map (frB i rows))[j]? = some (some b) → ∃ b0, (s.hp.set i none)[j]? = some (some b0) ∧ frB i rows (some b0) = some b := by
        intro j b h
        rw [List.getElem?_map] at h
        cases h1 : (s.hp.set i none)[j]? with
        | none => rw [h1] at h; simp at h
        | some o =>
          rw [h1] at h
          cases o with
          | none => simp [frB] at h
          | some b0 => exact ⟨b0, rfl, by simpa using h⟩
      refine ⟨by simp [hst.hr.len], ?_, ?_, ?_⟩
      · intro j b hj
        obtain ⟨b0, h1, h2⟩ := inv j b hj
        have h1' : s.hp[j]? = some (some b0) := by
          rcases getElem?_set_cases h1 with ⟨_, h⟩ | ⟨_, h⟩
          · cases h
          · exact h
        obtain ⟨q, h3, h4⟩ := h0.rel j b0 h1
        obtain ⟨q', h3', h4'⟩ := hst.hr.rel j b0 h1'
        rw [h3] at h3'; cases h3'
        refine ⟨q, h3, ?_⟩
        cases b0 with
        | arr e' k' rows' => simp only [frB, Option.some.injEq] at h2; subst h2; exact h4
        | arj e' k' n' rows' => simp only [frB, Option.some.injEq] at h2; subst h2; exact h4
        | box t cs =>
          simp only [frB, Option.some.injEq] at h2; subst h2
          cases q with
          | arr => exact h4.elim
          | box b =>
            obtain ⟨xs, g1, g2⟩ := h4'
            exact ⟨xs, g1, frCs_rel ho hx g2⟩
      · intro j1 j2 b c p q k' hij hb1 hc1 hp hq hk
        obtain ⟨b0, h1, _⟩ := inv j1 b hb1
        obtain ⟨c0, h2, _⟩ := inv j2 c hc1
        exact h0.inj j1 j2 b0 c0 p q k' hij h1 h2 hp hq hk
      · intro k' hk'
        refine ⟨(h0.okn k' hk').1, fun j b q hj hq => ?_⟩
        obtain ⟨b0, h1, _⟩ := inv j b hj
        exact (h0.okn k' hk').2 j b0 q h1 hq
    refine ⟨_, ⟨hr', hst.size, hst.defers, fun t => ?_, fun g ν => (hst.gl g ν).mono (fun _ _ => rfl) ho⟩, ⟨hr', s1.os, s1.tape, s1.output, s1.size, s1.frame, s1.oksub, s1.okfrom, ?_, s1.ext⟩⟩
    · show AVRel w _ μ (getF (frF i rows s.fr) t) _
      rw [frF_get]; exact frAV_rel ho hx (hst.fr t)
    · rintro b ⟨j, blk, m', h1, h2, h3⟩
      rw [List.getElem?_map] at h1
      cases h4 : (s.hp.set i none)[j]? with
      | none => rw [h4] at h1; simp at h1
      | some o =>
        cases o with
        | none => rw [h4] at h1; simp [frB] at h1
        | some b0 => exact s1.ownfrom b ⟨j, b0, m', h4, h2, h3⟩
  · exact ⟨ok, hst, Step.refl hst.hr⟩

theorem frz_st : ∀ {l : List Nat} {s : S} {ok : Nat → Prop}, St n w ok μ s a → ∃ ok', St n w ok' μ (frz l s) a ∧ Step w ok μ s.hp w ok' μ (frz l s).hp
  | [], s, ok, h => ⟨ok, h, Step.refl h.hr⟩
  | i :: l, s, ok, h => by
    obtain ⟨ok1, h1, s1⟩ := frz1_st (i := i) h
    obtain ⟨ok2, h2, s2⟩ := frz_st (l := l) h1
    exact ⟨ok2, h2, s1.trans s2⟩

theorem frz1_gl : (frz1 i s).gl = s.gl := by unfold frz1; split <;> rfl
theorem frz_gl : ∀ {l : List Nat} {s : S}, (frz l s).gl = s.gl
  | [], _ => rfl
  | i :: l, s => by rw [frz, frz_gl, frz1_gl]
end

/-! ### scalars, plain data -/
def flatC : C → Bool
  | .v (.lit _) => true
  | _ => false

mutual
def flatAV : AV → Bool
  | .one c => flatC c
  | .agg cs => cs.all flatC
  | .tup l => flatAVs l
  | _ => false
def flatAVs : List AV → Bool
  | [] => true
  | v :: l => flatAV v && flatAVs l
end


def idC : C → Bool
  | .v _ | .vptr _ | .full _ | .nil => true
  | _ => false
mutual
def idAV : AV → Bool
  | .one c => idC c
  | .agg cs => cs.all idC
  | .fn _ a b => a.all idC && b.all idC
  | .tup l => idAVs l
  | .any => true
def idAVs : List AV → Bool
  | [] => true
  | v :: l => idAV v && idAVs l
end
section
variable {P : Program} {n : Nat} {w w' w2 : World} {ok ok' ok2 : Nat → Prop} {μ μ' μ2 : List MB} {hp hp' : Hp}
theorem flatC_rel {c : C} {x : Value} (h : flatC c = true) (hr : CRel w ok μ c x) : CRel w2 ok2 μ2 c x := by
  unfold flatC at h
  split at h
  · cases hr with | v hr => cases hr with | lit _ h => exact .v (.lit _ h)
  · cases h

theorem flatCs_rel : ∀ {cs : List C} {xs : List Value}, cs.all flatC = true → All2 (CRel w ok μ) cs xs → All2 (CRel w2 ok2 μ2) cs xs
  | [], _, _, .nil => .nil
  | c :: cs, _, h, .cons hc ht => by
    simp only [List.all_cons, Bool.and_eq_true] at h
    exact .cons (flatC_rel h.1 hc) (flatCs_rel h.2 ht)

mutual
theorem flatAV_rel : ∀ {v : AV} {x : Value}, flatAV v = true → AVRel w ok μ v x → AVRel w2 ok2 μ2 v x
  | .one _, _, h, .one hc => .one (flatC_rel h hc)
  | .agg _, _, h, .agg hc => .agg (flatCs_rel h hc)
  | .tup _, _, h, .tup ht => .tup (flatAVs_rel h ht)
theorem flatAVs_rel : ∀ {l : List AV} {xs : List Value}, flatAVs l = true → AVRels w ok μ l xs → AVRels w2 ok2 μ2 l xs
  | [], _, _, .nil => .nil
  | v :: l, _, h, .cons hv ht => by
    simp only [flatAVs, Bool.and_eq_true] at h
    exact .cons (flatAV_rel h.1 hv) (flatAVs_rel h.2 ht)
end

theorem not_own_nil {μ : List MB} {b : Nat} : ¬ OwnL [] μ b := fun ⟨i, blk, m, h, _⟩ => by simp at h

theorem hr_nil (h : ∀ b, ok b → b < w.heap.size) : HR w ok [] [] :=
  ⟨rfl, fun i b h => by simp at h, fun i j b c m n k _ h => by simp at h, fun k hk => ⟨h k hk, fun i b m h => by simp at h⟩⟩

/-- What a call of plain data leaves of the caller's memory: all. -/
theorem step_frame (hr : HR w ok μ hp) (hs : Step w ok [] [] w' ok' μ' []) : Step w ok μ hp w' ok' μ hp := by
  have hf : ∀ b, b < w.heap.size → w'.heap[b]? = w.heap[b]? := fun b hb => hs.frame b hb not_own_nil
  refine ⟨⟨hr.len, ?_, hr.inj, ?_⟩, hs.os, hs.tape, hs.output, hs.size, fun b hb _ => hf b hb, hs.oksub, ?_, fun b h => .inr h, fun _ _ h => h⟩
  · intro i b hb
    obtain ⟨m, h1, h2⟩ := hr.rel i b hb
    exact ⟨m, h1, h2.mono (fun b hb => hf b (hr.keep hb).1) hs.oksub (fun _ _ h => h) fun b hb => hf b (h2.lt hb)⟩
  · intro b hb
    refine ⟨(hs.hr.okn b hb).1, fun i c m h1 h2 h3 => ?_⟩
    rcases hs.okfrom b hb with h4 | h4 | h4
    · exact (hr.okn b h4).2 i c m h1 h2 h3
    · have := hr.own_lt ⟨i, c, m, h1, h2, h3⟩; omega
    · exact not_own_nil h4
  · intro b hb
    rcases hs.okfrom b hb with h4 | h4 | h4
    · exact .inl h4
    · exact .inr (.inl h4)
    · exact (not_own_nil h4).elim


theorem idC_rel {c : C} {x : Value} (h : idC c = true) (hr : CRel w ok μ c x) : CRel w ok μ2 c x := by
  cases hr with
  | v h1 => exact .v h1
  | vptr b off cv a b' c => exact .vptr _ _ _ a b' c
  | full h1 => exact .full h1
  | nil => exact .nil
  | _ => simp [idC] at h
theorem idCs_rel : ∀ {cs : List C} {xs : List Value}, cs.all idC = true → All2 (CRel w ok μ) cs xs → All2 (CRel w ok μ2) cs xs
  | [], _, _, .nil => .nil
  | c :: cs, _, h, .cons hc ht => by
    simp only [List.all_cons, Bool.and_eq_true] at h
    exact .cons (idC_rel h.1 hc) (idCs_rel h.2 ht)
mutual
theorem idAV_rel : ∀ {v : AV} {x : Value}, idAV v = true → AVRel w ok μ v x → AVRel w ok μ2 v x
  | .one _, _, h, .one hc => .one (idC_rel h hc)
  | .agg _, _, h, .agg hc => .agg (idCs_rel h hc)
  | .tup _, _, h, .tup ht => .tup (idAVs_rel h ht)
  | .fn _ _ _, _, h, .fn h1 h2 => by
    simp only [idAV, Bool.and_eq_true] at h
    exact .fn (idCs_rel h.1 h1) (idCs_rel h.2 h2)
  | .any, _, _, _ => .any
theorem idAVs_rel : ∀ {l : List AV} {xs : List Value}, idAVs l = true → AVRels w ok μ l xs → AVRels w ok μ2 l xs
  | [], _, _, .nil => .nil
  | v :: l, _, h, .cons hv ht => by
    simp only [idAVs, Bool.and_eq_true] at h
    exact .cons (idAV_rel h.1 hv) (idAVs_rel h.2 ht)
end

/-- What a call of plain data leaves of the caller's memory: all, and what was plain data only for it is again one's own. -/
theorem borrow_step (hr : HR w ok μ hp) (hs : Step w ok2 [] [] w' ok' μ' []) : Step w ok μ hp w' ok μ hp := by
  have hf : ∀ b, b < w.heap.size → w'.heap[b]? = w.heap[b]? := fun b hb => hs.frame b hb not_own_nil
  refine ⟨⟨hr.len, ?_, hr.inj, ?_⟩, hs.os, hs.tape, hs.output, hs.size, fun b hb _ => hf b hb, fun _ h => h, fun b h => .inl h, fun b h => .inr h, fun _ _ h => h⟩
  · intro i b hb
    obtain ⟨m, h1, h2⟩ := hr.rel i b hb
    exact ⟨m, h1, h2.mono (fun b hb => hf b (hr.keep hb).1) (fun _ h => h) (fun _ _ h => h) fun b hb => hf b (h2.lt hb)⟩
  · intro b hb
    exact ⟨Nat.lt_of_lt_of_le (hr.keep hb).1 hs.size, (hr.okn b hb).2⟩
end
end Go.Proofs.AE
