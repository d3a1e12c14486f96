/- The abstract evaluator, part 5: '==' on structs of scalars. -/
import Derived.Test.YtniihihcklpdgaaAeBin
set_option linter.unusedVariables false
set_option linter.unusedSimpArgs false
namespace Go.Proofs.AE
open Go Go.RowKit

section
variable {P : Program} {n : Nat} {w : World} {ok : Nat → Prop} {μ : List MB} {s : S} {a : Act}

/-- Cells of scalars, compared one by one. -/
def eqVals : List Value → List Value → Bool
  | [], [] => true
  | .int _ a :: r, .int _ b :: r' => (a == b) && eqVals r r'
  | .bool a :: r, .bool b :: r' => (a == b) && eqVals r r'
  | .string a :: r, .string b :: r' => (a == b) && eqVals r r'
  | _, _ => false

/-- Both are scalars of the kind. -/
def kv2 : Sh → Value × Value → Prop
  | .int _, (.int k _, .int k' _) => k = k'
  | .bool, (.bool _, .bool _) => True
  | .string, (.string _, .string _) => True
  | _, _ => False

def Fit (l : List Sh) (xs ys : List Value) : Prop := xs.length = ys.length ∧ All2 kv2 l (xs.zip ys)

theorem eqCells_rel : ∀ {l : List Sh} {cs ds : List C} {xs ys : List Value} {b : Bool}, eqCells l cs ds = some b → All2 (CRel w ok μ) cs xs → All2 (CRel w ok μ) ds ys →
    b = eqVals xs ys ∧ Fit l xs ys
  | l, cs, ds, xs, ys, b, h, h1, h2 => by
    induction l generalizing cs ds xs ys b with
    | nil =>
      unfold eqCells at h
      split at h <;> first | (cases h; done) | skip
      all_goals first
        | (cases h; cases h1; cases h2; exact ⟨rfl, rfl, .nil⟩)
        | (simp_all; done)
    | cons q l ih =>
      unfold eqCells at h
      split at h
      · simp_all
      · rename_i e1
        obtain ⟨rfl, rfl⟩ := List.cons.inj e1
        cases h1 with | cons hc h1 =>
        cases h2 with | cons hd h2 =>
        split at h
        · rename_i hk; subst hk
          obtain ⟨b', hb', rfl⟩ := Option.map_eq_some_iff.1 h
          obtain ⟨rfl, hl, hs⟩ := ih _ _ _ _ _ hb' h1 h2
          cases hc with | v hc => cases hc with | lit _ _ =>
          cases hd with | v hd => cases hd with | lit _ _ =>
          exact ⟨rfl, by simp [hl], .cons rfl hs⟩
        · cases h
      · rename_i e1
        obtain ⟨rfl, rfl⟩ := List.cons.inj e1
        cases h1 with | cons hc h1 =>
        cases h2 with | cons hd h2 =>
        obtain ⟨b', hb', rfl⟩ := Option.map_eq_some_iff.1 h
        obtain ⟨rfl, hl, hs⟩ := ih _ _ _ _ _ hb' h1 h2
        cases hc with | v hc => cases hc with | lit _ _ =>
        cases hd with | v hd => cases hd with | lit _ _ =>
        exact ⟨rfl, by simp [hl], .cons trivial hs⟩
      · rename_i e1
        obtain ⟨rfl, rfl⟩ := List.cons.inj e1
        cases h1 with | cons hc h1 =>
        cases h2 with | cons hd h2 =>
        obtain ⟨b', hb', rfl⟩ := Option.map_eq_some_iff.1 h
        obtain ⟨rfl, hl, hs⟩ := ih _ _ _ _ _ hb' h1 h2
        cases hc with | v hc => cases hc with | lit _ _ =>
        cases hd with | v hd => cases hd with | lit _ _ =>
        exact ⟨rfl, by simp [hl], .cons trivial hs⟩
      · cases h

theorem Fit.split {l l' : List Sh} {xs ys : List Value} (h : Fit (l ++ l') xs ys) :
    Fit l (xs.take l.length) (ys.take l.length) ∧ Fit l' (xs.drop l.length) (ys.drop l.length) ∧ eqVals xs ys = (eqVals (xs.take l.length) (ys.take l.length) && eqVals (xs.drop l.length) (ys.drop l.length)) := by
  induction l generalizing xs ys with
  | nil => simpa [eqVals] using ⟨⟨rfl, .nil⟩, h⟩
  | cons q l ih =>
    obtain ⟨hl, h⟩ := h
    cases xs with
    | nil => cases h
    | cons x xs =>
    cases ys with
    | nil => cases h
    | cons y ys =>
    cases h with
    | cons hq ht =>
    obtain ⟨⟨a1, a2⟩, b, c⟩ := ih ⟨by simpa using hl, ht⟩
    refine ⟨⟨by simp at a1 ⊢; omega, .cons hq a2⟩, by simpa using b, ?_⟩
    cases x <;> cases y <;> (try (cases q <;> exact hq.elim)) <;> simp [eqVals, c, Bool.and_assoc]

def aggB (P : Program) (t : TypeId) : Bool := match P.underlying t with | some (.struct _) | some (.array _ _) => true | _ => false
/-- A value of a type out of its cells. -/
def mkT (P : Program) (t : TypeId) (l : List Value) : Value := if aggB P t then .agg l.toArray else l.getD 0 undef

theorem run_isAgg {t : TypeId} {d : TypeDesc} (hd : P.underlying t = some d) (w : World) : (isAgg t).run P w = .ok (aggB P t) w := by
  unfold aggB Go.isAgg
  simp only [Sem.run_bind, run_underlying hd, Result.andThen_ok, hd]
  cases d <;> rfl

theorem run_part {t : TypeId} {d : TypeDesc} (hd : P.underlying t = some d) {m : Nat} (hz : (P.info? t).map (·.size) = some m) (hm : aggB P t = false → m = 1) {cs : Array Value} {off : Nat} (h : off + m ≤ cs.size) (w : World) :
    (part t cs off).run P w = .ok (mkT P t ((cs.toList.drop off).take m)) w := by
  unfold part
  simp only [Sem.run_bind, run_isAgg hd, Result.andThen_ok, mkT]
  cases hb : aggB P t with
  | true =>
    obtain ⟨i, hi, rfl⟩ := Option.map_eq_some_iff.1 hz
    simp only [sizeOf, typeInfo, if_true, Sem.run_bind, run_program, Result.andThen_ok, hi, Sem.run_pure]
    congr 2
    apply Array.ext'
    simp
  | false =>
    have := hm hb; subst this
    simp only [Bool.false_eq_true, if_false]
    have hx : cs[off]? = some cs[off] := Array.getElem?_eq_getElem (by omega)
    rw [hx]
    simp only [Sem.run_pure]
    congr 1
    rw [List.getD_eq_getElem?_getD, List.getElem?_take, if_pos (by omega), List.getElem?_drop]
    simp [hx]

theorem flatB_len {d : Nat} {t : TypeId} {l : List Sh} (h : flatB P d t = some l) : ∃ dd, P.underlying t = some dd ∧ (aggB P t = false → l.length = 1) := by
  cases d with
  | zero => cases h
  | succ d =>
    unfold flatB at h
    split at h
    · rename_i hu; cases h; exact ⟨_, hu, fun _ => rfl⟩
    · rename_i hu; cases h; exact ⟨_, hu, fun _ => rfl⟩
    · rename_i hu; cases h; exact ⟨_, hu, fun _ => rfl⟩
    · rename_i hu; exact ⟨_, hu, fun hb => by simp [aggB, hu] at hb⟩
    · cases h

theorem run_flat : ∀ (d : Nat) (t : TypeId) (l : List Sh) (e : Nat), flatB P d t = some l → ∀ (xs ys : List Value) (w : World), Fit l xs ys →
    (Op.equalIn (d + e) t (mkT P t xs) (mkT P t ys)).run P w = .ok (eqVals xs ys) w := by
  intro d
  induction d with
  | zero => intro t l e h; cases h
  | succ d ih =>
    intro t l e h xs ys w hf
    have hde : d + 1 + e = (d + e) + 1 := by omega
    rw [hde]
    unfold flatB at h
    split at h
    · rename_i hu
      cases h
      obtain ⟨hl, hf⟩ := hf
      have hb : aggB P t = false := by simp [aggB, hu]
      match xs, ys, hf with
      | x :: xs, y :: ys, .cons hq ht =>
        have h0 : xs = [] ∧ ys = [] := by cases xs <;> cases ys <;> first | exact ⟨rfl, rfl⟩ | (simp at hl; done) | (cases ht)
        obtain ⟨rfl, rfl⟩ := h0
        cases x <;> cases y <;> first | exact hq.elim | skip
        simp [mkT, hb, eqVals, run_equalIn_bool' w _ t _ _ hu]
    · rename_i k hu
      cases h
      obtain ⟨hl, hf⟩ := hf
      have hb : aggB P t = false := by simp [aggB, hu]
      match xs, ys, hf with
      | x :: xs, y :: ys, .cons hq ht =>
        have h0 : xs = [] ∧ ys = [] := by cases xs <;> cases ys <;> first | exact ⟨rfl, rfl⟩ | (simp at hl; done) | (cases ht)
        obtain ⟨rfl, rfl⟩ := h0
        cases x <;> cases y <;> first | exact hq.elim | skip
        cases hq
        simp [mkT, hb, eqVals, run_equalIn_int w _ t _ _ _ _ hu]
    · rename_i hu
      cases h
      obtain ⟨hl, hf⟩ := hf
      have hb : aggB P t = false := by simp [aggB, hu]
      match xs, ys, hf with
      | x :: xs, y :: ys, .cons hq ht =>
        have h0 : xs = [] ∧ ys = [] := by cases xs <;> cases ys <;> first | exact ⟨rfl, rfl⟩ | (simp at hl; done) | (cases ht)
        obtain ⟨rfl, rfl⟩ := h0
        cases x <;> cases y <;> first | exact hq.elim | skip
        simp [mkT, hb, eqVals, run_equalIn_string w _ t _ _ hu, beq_toListBytes]
    · rename_i fs hu
      split at h
      · cases h
      · rename_i hst
        have hb : aggB P t = true := by simp [aggB, hu]
        have hfo : P.fieldsOf t = fs := by simp [Program.fieldsOf, hu]
        simp only [mkT, hb, if_true]
        rw [run_equalIn_agg w (d + e) t _ _ (by rw [hfo]; exact hu) (by simpa using hst), hfo]
        have key : ∀ (fs : List Field) (acc l : List Sh) (xs ys : List Value), flatFs (flatB P d) (fun u => (P.info? u).map (·.size)) fs acc = some l → Fit l xs ys →
            acc.length ≤ l.length ∧ ∃ l', l = acc ++ l' ∧ (Op.eqFields (d + e) xs.toArray ys.toArray fs).run P w = .ok (eqVals (xs.drop acc.length) (ys.drop acc.length)) w := by
          intro fs
          induction fs with
          | nil =>
            intro acc l xs ys h hf
            simp only [flatFs] at h; cases h
            refine ⟨Nat.le_refl _, [], by simp, ?_⟩
            have hlx : xs.length = acc.length := by
              have := hf.2.length; rw [List.length_zip, hf.1, Nat.min_self] at this; rw [hf.1]; omega
            have hly : ys.length = acc.length := hf.1 ▸ hlx
            simp [Op.eqFields, ← hlx]
            rw [hlx, ← hly]; simp [eqVals]
          | cons f fs ihf =>
            intro acc l xs ys h hf
            simp only [flatFs] at h
            split at h
            · rename_i hc
              obtain ⟨hname, hoff⟩ := hc
              split at h
              · rename_i m hm
                split at h
                · rename_i hz
                  obtain ⟨hle, l', hl', hrun⟩ := ihf (acc ++ m) l xs ys h hf
                  refine ⟨by rw [List.length_append] at hle; omega, m ++ l', by rw [hl', List.append_assoc], ?_⟩
                  obtain ⟨dd, hdd, hone⟩ := flatB_len hm
                  have hlen : l.length = xs.length := by
                    have := hf.2.length; rw [List.length_zip, hf.1, Nat.min_self] at this; rw [hf.1]; exact this
                  have hlen2 : l.length = ys.length := hf.1 ▸ hlen
                  have hsz : acc.length + m.length ≤ xs.length := by rw [← hlen, hl']; simp
                  rw [hl', List.append_assoc] at hf
                  obtain ⟨_, hf2, _⟩ := hf.split
                  obtain ⟨hf3, hf4, he⟩ := hf2.split
                  have hx := run_part (P := P) hdd hz hone (cs := xs.toArray) (off := f.offset) (by rw [hoff]; simpa using hsz) w
                  have hy := run_part (P := P) hdd hz hone (cs := ys.toArray) (off := f.offset) (by rw [hoff]; have := hsz; rw [hf.1] at this; simpa using this) w
                  rw [hoff] at hx hy
                  simp only at hx hy
                  have hr := ih f.type m e hm ((xs.drop acc.length).take m.length) ((ys.drop acc.length).take m.length) w hf3
                  simp only [Op.eqFields]
                  rw [if_pos hname]
                  simp only [Sem.run_bind, hoff, hx, hy, Result.andThen_ok, hr]
                  rw [he]
                  rw [List.length_append] at hrun
                  cases eqVals ((xs.drop acc.length).take m.length) ((ys.drop acc.length).take m.length) with
                  | true =>
                    simp only [Bool.not_true, Bool.false_eq_true, if_false, Bool.true_and, List.drop_drop]
                    exact hrun
                  | false => simp
                · cases h
              · cases h
            · cases h
        obtain ⟨_, l', hl', hrun⟩ := key fs.toList [] l xs ys h hf
        simpa using hrun
    · cases h

end
end Go.Proofs.AE
