/- The abstract evaluator, part 14: regions in the text's order. -/
import Derived.Test.YtniihihcklpdgaaAeCode
set_option linter.unusedVariables false
set_option linter.unusedSimpArgs false
namespace Go.Proofs.AE
open Go Go.RowKit

section
variable {P : Program} {G : Nat → AV} {k n : Nat} {w w0 : World} {ok ok0 : Nat → Prop} {μ μ0 : List MB} {hp0 : Hp} {s : S} {a : Act}

theorem yielded_slot {ops : Array Oper} {j t : Nat} (h : (ops[j]?).bind (·.dst) = some t) (tmps : Array Value) : yielded ops tmps j = match tmps[t]? with | some (.bool b) => some b | _ => none := by
  unfold yielded
  rw [h]; rfl

theorem compOp_spec {ops : Array Oper} {o : Oper} {ao : AOp} (h : compOp n ops o = some ao) :
    (ao.dst = o.dst ∧ ao.op = o.op) ∧ (∀ t, o.dst = some t → t < n) ∧
      ((o.guard = none ∧ ao.g = none) ∨ ∃ j b t, o.guard = some (j, b) ∧ ao.g = some (t, b) ∧ (ops[j]?).bind (·.dst) = some t ∧ t < n) := by
  unfold compOp at h
  by_cases hd : dstOk n o.dst = true
  · rw [if_pos hd] at h
    have hd' : ∀ t, o.dst = some t → t < n := by
      intro t ht
      rw [ht] at hd
      simpa [dstOk] using hd
    split at h
    · rename_i hg; cases h; exact ⟨⟨rfl, rfl⟩, hd', .inl ⟨hg, rfl⟩⟩
    · rename_i j b hg
      split at h
      · rename_i t ht
        split at h
        · rename_i hlt; cases h; exact ⟨⟨rfl, rfl⟩, hd', .inr ⟨j, b, t, hg, rfl, ht, hlt⟩⟩
        · cases h
      · cases h
  · rw [if_neg hd] at h; cases h

theorem wanted_of {ops : Array Oper} {o : Oper} (hst : St n w ok μ s a) {j t : Nat} {want : Bool} (hg : o.guard = some (j, want)) (hj : (ops[j]?).bind (·.dst) = some t) (ht : t < n) :
    (∀ b, getF s.fr t = .one (.v (.lit (.bool b))) → Region.wanted o (yielded ops a.tmps) = (b == want)) ∧ (getF s.fr t = .tup [] → Region.wanted o (yielded ops a.tmps) = false) := by
  have hx := hst.fr t
  have hlt : t < a.tmps.size := by rw [hst.size]; exact ht
  have hget : a.tmps[t]? = some (a.tmps.getD t undef) := by simp [Array.getD_eq_getD_getElem?, hlt]
  constructor
  · intro b hb
    rw [hb] at hx
    have hx' := lit_rel hx
    unfold Region.wanted
    rw [hg]
    simp only [yielded_slot hj, hget, hx']
    rfl
  · intro hb
    rw [hb] at hx
    generalize hv : a.tmps.getD t undef = v at hx hget
    cases hx with | tup hx =>
    unfold Region.wanted
    rw [hg]
    simp only [yielded_slot hj, hget]
    rfl

/-- A region in the text's order. -/
theorem aops_sound {ops : Array Oper} {Q : Exit → Act → World → Prop} : ∀ (l : List Oper) (al : List AOp) (s : S) (a : Act) (w : World) (ok : Nat → Prop) (μ : List MB) (K : S → Prop), compOps n ops l = some al → St n w ok μ s a →
    Far k w0 ok0 μ0 hp0 w ok μ s.hp → s.gl = G → aops P al s K → (∀ a w, Holds k n w0 ok0 μ0 hp0 G K a w → Q .normal a w) → wpList P ops Q l a w := by
  intro l
  induction l with
  | nil =>
    intro al s a w ok μ K hc hst hfar hg h hQ
    cases hc
    exact hQ a w ⟨ok, μ, s, hst, hfar, hg, h⟩
  | cons o l ih =>
    intro al s a w ok μ K hc hst hfar hg h hQ
    unfold compOps at hc
    split at hc
    · rename_i ao al' hao hal
      cases hc
      obtain ⟨h1, h2, h3⟩ := compOp_spec hao
      have step : ∀ s : S, St n w ok μ s a → Far k w0 ok0 μ0 hp0 w ok μ s.hp → s.gl = G → aop P ao s (fun s' => aops P al' s' K) → o.wp P a w (wpList P ops Q l) Q := fun s hst hfar hg h =>
        aop_sound h1 h2 hst hfar hg h (K' := wpList P ops Q l) (fun a' w' ⟨ok', μ', s', q1, q2, q3, q4⟩ => ih al' s' a' w' ok' μ' K hal q1 q2 q3 q4 hQ)
      have skip : ∀ s : S, St n w ok μ s a → Far k w0 ok0 μ0 hp0 w ok μ s.hp → s.gl = G → aops P al' (s.put ao.dst (.tup [])) K → wpList P ops Q l (a.put o.dst undef) w := fun s hst hfar hg h => by
        rw [h1.1] at h
        exact ih al' _ _ w ok μ K hal (hst.put (v := .tup []) (.tup .nil) h2) (by cases o.dst <;> exact hfar) (by cases o.dst <;> exact hg) h hQ
      unfold wpList
      rcases h3 with ⟨hgd, hag⟩ | ⟨j, want, t, hgd, hag, hj, hlt⟩
      · simp only [aops, hag] at h
        rw [if_pos (by simp [Region.wanted, hgd])]
        exact .inl (step s hst hfar hg h)
      · obtain ⟨w1, w2⟩ := wanted_of (o := o) hst hgd hj hlt
        simp only [aops, hag] at h
        split at h
        · rename_i b hb
          have hw := w1 b hb
          by_cases hbw : b = want
          · rw [if_pos (by rw [hw]; simp [hbw])]
            exact .inl (step _ (hst.reput (by rw [hb, hbw]; rfl)) hfar hg (h.1 hbw))
          · rw [if_neg (by rw [hw]; simp [hbw])]
            have hbn : b = !want := by cases b <;> cases want <;> simp_all
            exact skip _ (hst.reput (by rw [hb, hbn]; rfl)) hfar hg (h.2 hbn)
        · rename_i hb
          rw [if_neg (by rw [w2 hb]; simp)]
          exact skip s hst hfar hg h
        · exact h.elim
    · cases hc

end
end Go.Proofs.AE
