/- The abstract evaluator, part 12b: regions whose order Go leaves open: one run in one order tells of all. -/
import Derived.Test.YtniihihcklpdgaaAeDraw
import Derived.Test.YtniihihcklpdgaaAeView
set_option linter.unusedVariables false
set_option linter.unusedSimpArgs false
namespace Go.Proofs.AE
open Go Go.RowKit

theorem pureOp_hp {P : Program} {hp hp' : Hp} {ev : Operand → AV} {op : Op} (h : isReader op = false) : pureOp P hp ev op = pureOp P hp' ev op := by
  cases op <;> first | rfl | (cases h; done) | (rename_i fn _ _; cases fn <;> rfl)

theorem pureOp_congr {P : Program} {hp : Hp} {ev ev' : Operand → AV} {op : Op} (h : ∀ x ∈ op.operands, ev x = ev' x) : pureOp P hp ev op = pureOp P hp ev' op := by
  have ps : ∀ (l : List (Nat × Operand)), (∀ x ∈ l.map (·.2), ev x = ev' x) → (l.map fun (k, x) => (k, ev x)) = (l.map fun (k, x) => (k, ev' x)) := by
    intro l hl
    apply List.map_congr_left
    rintro ⟨k, x⟩ hx
    simp only [hl x (List.mem_map.2 ⟨(k, x), hx, rfl⟩)]
  have os : ∀ (l : List Operand), (∀ x ∈ l, ev x = ev' x) → l.map ev = l.map ev' := fun l hl => List.map_congr_left hl
  have oo : ∀ (o : Option Operand), (∀ x ∈ o.toArray, ev x = ev' x) → o.map ev = o.map ev' := by
    intro o ho
    cases o with
    | none => rfl
    | some x => simp [ho x (by simp [Option.toArray])]
  cases op with
  | move x => simp only [pureOp, h x (by simp [Op.operands])]
  | assign x => simp only [pureOp, h x (by simp [Op.operands])]
  | load t x => simp only [pureOp, h x (by simp [Op.operands])]
  | binOp op t x y yt => simp only [pureOp, h x (by simp [Op.operands]), h y (by simp [Op.operands])]
  | unOp op t x => simp only [pureOp, h x (by simp [Op.operands])]
  | convert a b x => simp only [pureOp, h x (by simp [Op.operands])]
  | slice t x lo hi mx =>
    have h1 := oo lo fun y hy => h y (by simp only [Op.operands, Array.mem_append]; exact .inl (.inl (.inr hy)))
    have h2 := oo hi fun y hy => h y (by simp only [Op.operands, Array.mem_append]; exact .inl (.inr hy))
    have h3 := oo mx fun y hy => h y (by simp only [Op.operands, Array.mem_append]; exact .inr hy)
    simp only [pureOp, h x (by simp [Op.operands]), h1, h2, h3]
  | fieldAddr t x f => simp only [pureOp, h x (by simp [Op.operands])]
  | field t x f => simp only [pureOp, h x (by simp [Op.operands])]
  | indexAddr t x i => simp only [pureOp, h x (by simp [Op.operands]), h i (by simp [Op.operands])]
  | index t x i => simp only [pureOp, h x (by simp [Op.operands]), h i (by simp [Op.operands])]
  | extract t i => simp only [pureOp, h t (by simp [Op.operands])]
  | nilCheck x => simp only [pureOp, h x (by simp [Op.operands])]
  | makeFunc fn first caps =>
    have h1 := os first.toList fun y hy => h y (by simp only [Op.operands, Array.mem_append]; exact .inl (by simpa using hy))
    have h2 := os caps.toList fun y hy => h y (by simp only [Op.operands, Array.mem_append]; exact .inr (by simpa using hy))
    cases fn <;> simp only [pureOp, h1, h2]
  | build t parts =>
    have h1 := ps parts.toList fun y hy => h y (by simp only [Op.operands]; simpa using hy)
    simp only [pureOp, h1]
  | call c =>
    obtain ⟨callee, args, ts⟩ := c
    have h1 := os args.toList fun y hy => h y (by simp only [Op.operands, Call.operands, Array.mem_append]; exact .inr (by simpa using hy))
    cases callee with
    | builtin b =>
      cases b <;> simp only [pureOp, h1]
      split
      · rename_i x t hx ht
        have : ev x = ev' x := h x (by simp only [Op.operands, Call.operands, Array.mem_append]; exact .inr (by rw [← Array.mem_toList_iff, hx]; simp))
        simp only [this]
      · rfl
    | _ => rfl
  | _ => rfl

theorem avs_congr {ev ev' : Operand → AV} {l : List Operand} (h : ∀ x ∈ l, ev x = ev' x) : l.map ev = l.map ev' := List.map_congr_left h

theorem heapOp_congr {P : Program} {hp : Hp} {ev ev' : Operand → AV} {op : Op} (h : ∀ x ∈ op.operands, ev x = ev' x) : heapOp P hp ev op = heapOp P hp ev' op := by
  have ps : ∀ (l : List (Nat × Operand)), (∀ x ∈ l.map (·.2), ev x = ev' x) → (l.map fun (k, x) => (k, ev x)) = (l.map fun (k, x) => (k, ev' x)) := by
    intro l hl
    apply List.map_congr_left
    rintro ⟨k, x⟩ hx
    simp only [hl x (List.mem_map.2 ⟨(k, x), hx, rfl⟩)]
  cases op with
  | box t x => simp only [heapOp, h x (by simp [Op.operands])]
  | store t a x => simp only [heapOp, h a (by simp [Op.operands]), h x (by simp [Op.operands])]
  | buildSlice t n parts =>
    have h1 := ps parts.toList fun y hy => h y (by simp only [Op.operands]; simpa using hy)
    simp only [heapOp, h1]
  | makeSlice t a b => simp only [heapOp, h a (by simp [Op.operands]), h b (by simp [Op.operands])]
  | call c =>
    obtain ⟨callee, args, ts⟩ := c
    cases callee with
    | builtin b =>
      cases b <;> simp only [heapOp]
      split
      · rename_i s x t u hx ht
        have h1 : ev x = ev' x := h x (by simp only [Op.operands, Call.operands, Array.mem_append]; exact .inr (by rw [← Array.mem_toList_iff, hx]; simp))
        have h2 : ev s = ev' s := h s (by simp only [Op.operands, Call.operands, Array.mem_append]; exact .inr (by rw [← Array.mem_toList_iff, hx]; simp))
        simp only [h1, h2]
      · rfl
    | _ => rfl
  | _ => rfl

theorem callOf_congr {ev ev' : Operand → AV} {op : Op} (h : ∀ x ∈ op.operands, ev x = ev' x) : callOf ev op = callOf ev' op := by
  cases op with
  | call c =>
    obtain ⟨callee, args, ts⟩ := c
    cases callee with
    | value f =>
      have h1 := avs_congr (l := args.toList) (ev := ev) (ev' := ev') fun y hy => h y (by simp only [Op.operands, Call.operands, Array.mem_append]; exact .inr (by simpa using hy))
      have h2 : ev f = ev' f := h f (by simp [Op.operands, Call.operands])
      simp only [callOf, h1, h2]
    | _ => rfl
  | _ => rfl

theorem pickOf_congr {ev ev' : Operand → AV} {op : Op} (h : ∀ x ∈ op.operands, ev x = ev' x) : pickOf ev op = pickOf ev' op := by
  cases op with
  | pick c a b => simp only [pickOf, h c (by simp [Op.operands]), h a (by simp [Op.operands]), h b (by simp [Op.operands])]
  | _ => rfl

/-- What an operation does: its value, and the blocks behind it. -/
inductive DAct (P : Program) (G : Nat → AV) (hp : Hp) (ev : Operand → AV) (op : Op) : AV → Hp → Prop where
  | pure {p : Prop} {v : AV} (h : pureOp P hp ev op = some (p, v)) (hp' : p) : DAct P G hp ev op v hp
  | heap {p : Prop} {v : AV} {hp1 : Hp} (h : heapOp P hp ev op = some (p, v, hp1)) (hp' : p) : DAct P G hp ev op v hp1
  | call {f : Nat} {args : List AV} {r : AV} {hp1 : Hp} (h : callOf ev op = some (f, args)) (he : enters P f = true) (hc : ACall P G f hp args fun r' hp' => r' = r ∧ hp' = hp1) : DAct P G hp ev op r hp1
  | pick {q : Bool} {a b : AV} (h : pickOf ev op = some (q, a, b)) : DAct P G hp ev op (if q then a else b) hp

theorem heapOp_eff {P : Program} {hp : Hp} {ev : Operand → AV} {op : Op} (h : isEff op = false) : heapOp P hp ev op = none := by
  cases op with
  | call c =>
    obtain ⟨callee, args, ts⟩ := c
    cases callee with
    | builtin b => cases b <;> first | rfl | (cases h; done)
    | _ => cases h
  | _ => first | rfl | (cases h; done)

theorem callOf_eff {ev : Operand → AV} {op : Op} (h : isEff op = false) : callOf ev op = none := by
  cases op with
  | call c =>
    obtain ⟨callee, args, ts⟩ := c
    cases callee with
    | builtin b => rfl
    | _ => cases h
  | _ => rfl

theorem DAct.keeps {P : Program} {G : Nat → AV} {hp hp' : Hp} {ev : Operand → AV} {op : Op} {v : AV} (h : DAct P G hp ev op v hp') (he : isEff op = false) : hp' = hp := by
  cases h with
  | pure => rfl
  | heap h => rw [heapOp_eff he] at h; cases h
  | call h => rw [callOf_eff he] at h; cases h
  | pick => rfl

/-- The same in another memory, where it counts for nothing. -/
theorem DAct.move {P : Program} {G : Nat → AV} {hp hp' hq : Hp} {ev ev' : Operand → AV} {op : Op} {v : AV} (h : DAct P G hp ev op v hp') (hev : ∀ x ∈ op.operands, ev x = ev' x)
    (h1 : isEff op = true → hq = hp) (h2 : isEff op = false → pureOp P hq ev op = pureOp P hp ev op) : DAct P G hq ev' op v (if isEff op then hp' else hq) := by
  cases he : isEff op with
  | true =>
    rw [h1 he]
    simp only [if_true]
    cases h with
    | pure h hp' => exact .pure (by rw [← pureOp_congr hev]; exact h) hp'
    | heap h hp' => exact .heap (by rw [← heapOp_congr hev]; exact h) hp'
    | call h he hc => exact .call (by rw [← callOf_congr hev]; exact h) he hc
    | pick h => exact .pick (by rw [← pickOf_congr hev]; exact h)
  | false =>
    simp only [Bool.false_eq_true, if_false]
    cases h with
    | pure h hp' => exact .pure (by rw [← pureOp_congr hev, h2 he]; exact h) hp'
    | heap h => rw [heapOp_eff he] at h; cases h
    | call h => rw [callOf_eff he] at h; cases h
    | pick h => exact .pick (by rw [← pickOf_congr hev]; exact h)

section
variable {P : Program} {G : Nat → AV} {w : World} {ok : Nat → Prop} {μ : List MB} {hp hp' : Hp} {a : Act}

theorem dact_sound {o : Oper} {ev : Operand → AV} {v : AV} (hr : HR w ok μ hp) (hg : GRel w ok G) (hev : ∀ x, AVRel w ok μ (ev x) (a.eval x)) (h : DAct P G hp ev o.op v hp')
    {K : Act → World → Prop} (hK : ∀ x w' ok' μ', Step w ok μ hp w' ok' μ' hp' → AVRel w' ok' μ' v x → K (a.put o.dst x) w') {Q : Exit → Act → World → Prop} : o.wp P a w K Q := by
  unfold Oper.wp
  cases h with
  | pure h hp =>
    obtain ⟨x, hx, hrel⟩ := pureOp_sound (w := w) hr hev h hp
    rw [hx]
    exact hK x w ok μ (Step.refl hr) hrel
  | heap h hp =>
    obtain ⟨nx, w', μ', hx, hs, hrel⟩ := heapOp_sound (w := w) hr hev h hp
    rw [hx]
    rcases hrel with ⟨x, rfl, hrel⟩ | ⟨rfl, rfl⟩
    · exact hK x w' ok μ' hs hrel
    · exact hK undef w' ok μ' hs .any
  | @call f args r _ hc hent hcall =>
    unfold callOf at hc
    split at hc
    · rename_i fo as ts heq
      split at hc
      · rename_i g first caps hfe
        cases hc
        have hfr := hev fo
        rw [hfe] at hfr
        cases hfv : a.eval fo with
        | func fn fs cs =>
          rw [hfv] at hfr
          cases hfr with | fn hfirst hcaps =>
          have hargs : AVRels w ok μ (first.map .one ++ as.toList.map ev ++ caps.map .one) (fs.toList ++ (as.toList.map a.eval) ++ cs.toList) :=
            avrels_append (avrels_append (avrels_one hfirst) (avrels_map hev as.toList)) (avrels_one hcaps)
          have hC := hcall w ok μ _ hr hg hargs
          have hrun : (execOp a.eval o).run P w = .ok (.enter f (fs.toList ++ (as.toList.map a.eval) ++ cs.toList).toArray) w := by
            unfold enters at hent
            split at hent
            · rename_i fn hfn
              simp only [Bool.and_eq_true, Bool.not_eq_true'] at hent
              simp only [execOp, heq, resolve, hfv, Deferred.ofValue, Sem.run_bind, Sem.run_pure, Result.andThen_ok, invoke, callFunc, run_program, hfn, hent.1, hent.2, Bool.false_eq_true, if_false]
              congr 2
              apply Array.ext'
              simp
            · cases hent
          rw [hrun]
          simp only [Oper.upon]
          refine hC.mono ?_
          rintro e w' ⟨x, r', hp1, ok', μ', rfl, hs, hrel, rfl, rfl⟩
          exact hK x w' ok' μ' hs hrel
        | _ => rw [hfv] at hfr; cases hfr
      · cases hc
    · cases hc
  | @pick q va vb hpk =>
    unfold pickOf at hpk
    split at hpk
    · rename_i c x y heq
      split at hpk
      · rename_i q' hcq
        cases hpk
        have hc := hev c
        rw [hcq] at hc
        have hc' := lit_rel hc
        have hrun : (execOp a.eval o).run P w = .ok (.value (if q then a.eval x else a.eval y)) w := by
          simp [execOp, heq, hc', asBool]
        rw [hrun]
        cases q with
        | true => exact hK _ w ok μ (Step.refl hr) (hev x)
        | false => exact hK _ w ok μ (Step.refl hr) (hev y)
      · cases hpk
    · cases hpk
end

end Go.Proofs.AE
