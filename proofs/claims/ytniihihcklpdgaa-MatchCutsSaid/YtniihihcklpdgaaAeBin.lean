/- The abstract evaluator, part 4: the binary operations. -/
import Derived.Test.YtniihihcklpdgaaAePure
set_option linter.unusedVariables false
set_option linter.unusedSimpArgs false
namespace Go.Proofs.AE
open Go Go.RowKit

section
variable {P : Program} {n : Nat} {w : World} {ok : Nat → Prop} {μ : List MB} {s : S} {a : Act}

theorem run_binI (op : BinOp) (t : TypeId) (k k' : IntKind) (x y : Int) (h : (isShift op || k == k') = true) (hp : (binI op k x y).1) :
    (binOp op t (.int k x) (.int k' y)).run P w = .ok (binI op k x y).2 w := by
  cases op <;> simp only [isShift, Bool.true_or, Bool.false_or, beq_iff_eq] at h <;> (try subst h) <;> simp only [binI] at hp <;>
    first
    | (simp [binOp, Op.intArith, Op.intCmp, Op.intBits, binI, bitsV]; done)
    | (simp only [binOp, Op.shift]; simp [Int.not_lt.2 hp, binI]; done)
    | (simp only [binOp, Op.intDiv]; simp [hp, binI]; done)

theorem binI_rel (op : BinOp) (k : IntKind) (x y : Int) : (binI op k x y).2.oneCell' = true := by cases op <;> rfl

theorem toList_eq_data (a : ByteArray) : a.toList = a.data.toList := by rw [ByteArray.toList_eq]

theorem run_binS (op : BinOp) (t : TypeId) (x y : ByteArray) {p : Prop} {r : Value} (h : binS op x y = some (p, r)) (hp : p) :
    (binOp op t (.string x) (.string y)).run P w = .ok r w ∧ r.oneCell' = true := by
  have he : (x.data.toList == y.data.toList) = (x == y) := by rw [beq_toListBytes, toList_eq_data, toList_eq_data]
  cases op <;> simp only [binS] at h <;> cases h <;> simp only [binOp, Op.stringOp, toList_eq_data, he] <;> first
    | exact ⟨rfl, rfl⟩
    | (refine ⟨?_, rfl⟩; rw [if_neg (by have hm : IntKind.i64.max = 9223372036854775807 := rfl; rw [hm]; omega)]; rfl)

theorem eqGuard_lit (op : BinOp) (t : TypeId) (ox oy : Operand) {x y : Value} (h : ∀ cs ds, x = .agg cs → y = .agg ds → False) (h' : x = .nilIface → y = .nilIface → False) :
    (eqGuard op t ox oy x y).run P w = .ok () w := by
  unfold eqGuard
  split <;> first
    | rfl
    | (rw [if_neg (by simp)]
       split
       · exact (h' rfl rfl).elim
       · rename_i cs ds; exact (h cs ds rfl rfl).elim
       · rfl)

theorem run_equalIn_iface_nil {t u : TypeId} {v : Value} {ms : Array (String × TypeId)} (hu : P.underlying t = some (.interface ms)) (d : Nat) (w : World) :
    (Op.equalIn (d + 1) t (.iface u v) .nilIface).run P w = .ok false w := by
  simp [Op.equalIn, run_underlying hu]

theorem run_binV {t : TypeId} {op : BinOp} {x y : Value} {p : Prop} {r : Value} (h : binV ((tiOf P t).map TI.sh) op x y = some (p, r)) (hp : p) (ox oy : Operand) :
    ((do eqGuard op t ox oy x y; binOp op t x y : Sem Value)).run P w = .ok r w ∧ r.oneCell' = true := by
  have hg : (eqGuard op t ox oy x y).run P w = .ok () w := by
    refine eqGuard_lit _ _ _ _ ?_ ?_
    · rintro cs ds rfl rfl; simp [binV] at h
    · rintro rfl rfl; simp [binV] at h
  simp only [Sem.run_bind, hg, Result.andThen_ok]
  unfold binV at h
  split at h
  · split at h
    · rename_i k a k' b hk
      have he := Option.some.inj h
      have h1 : (binI op k a b).1 = p := by rw [he]
      have h2 : (binI op k a b).2 = r := by rw [he]
      rw [← h2]
      exact ⟨run_binI op t k k' a b hk (h1 ▸ hp), binI_rel op k a b⟩
    · cases h
  · exact run_binS _ _ _ _ h hp
  · split at h
    all_goals first | (cases h; done) | skip
    all_goals
      rename_i hs
      cases h
      obtain ⟨i, hi, hs'⟩ := Option.map_eq_some_iff.1 hs
      have hu := (tiOf_spec hi).bool hs'
      refine ⟨?_, rfl⟩
      simp [binOp, Op.equal, Op.maxDepth, run_equalIn_bool' w 9999 t _ _ hu]
  · cases h
  · split at h
    all_goals first | (cases h; done) | skip
    all_goals
      rename_i hs
      cases h
      obtain ⟨i, hi, hs'⟩ := Option.map_eq_some_iff.1 hs
      obtain ⟨ms, hu⟩ := (tiOf_spec hi).iface hs'
      refine ⟨?_, rfl⟩
      simp only [binOp, Op.equal, Op.maxDepth, Sem.run_bind, run_equalIn_iface_nil hu, Result.andThen_ok, Sem.run_pure, Bool.not_false]
  · cases h

end
end Go.Proofs.AE
