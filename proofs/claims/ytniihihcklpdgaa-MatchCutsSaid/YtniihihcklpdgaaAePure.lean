/- The abstract evaluator, part 3: the operations that leave memory alone do what the evaluator says. -/
import Derived.Test.YtniihihcklpdgaaAeOps
import Derived.Laws.Small
import Derived.Laws.Strings
import Derived.Laws.Strings2
set_option linter.unusedVariables false
set_option linter.unusedSimpArgs false
namespace Go.Proofs.AE
open Go Go.RowKit

section
variable {P : Program} {n : Nat} {w : World} {ok : Nat → Prop} {μ : List MB} {s : S} {a : Act}

theorem oneCell_of_nice {x : Value} (h : niceB x = true) : x.oneCell' = true := by cases x <;> simp_all [niceB, Value.oneCell']

theorem cV_rel (x : Value) (h : niceB x = true) : CRel w ok μ (cV x) x := by
  unfold cV
  split <;> first
    | exact .nil
    | exact .v (.lit _ rfl)
    | exact .any (oneCell_of_nice h)

theorem cVs_rel : ∀ (l : List Value), l.all niceB = true → All2 (CRel w ok μ) (l.map cV) l
  | [], _ => .nil
  | x :: l, h => .cons (cV_rel x (by simp at h; exact h.1)) (cVs_rel l (by simp at h; simpa using h.2))

theorem cAV_rel (x : Value) : AVRel w ok μ (cAV x) x := by
  unfold cAV
  split
  · rename_i xs
    split
    · rename_i h; exact .agg (cVs_rel _ h)
    · exact .any
  all_goals first
    | exact .one .nil
    | exact .one (.v (.lit _ rfl))
    | exact .any
    | skip
  rename_i f first caps
  split
  · rename_i h
    obtain ⟨h1, h2⟩ := h
    obtain rfl := Array.eq_empty_of_size_eq_zero h1
    obtain rfl := Array.eq_empty_of_size_eq_zero h2
    exact .fn .nil .nil
  · exact .any

theorem St.eval (h : St n w ok μ s a) (x : Operand) : AVRel w ok μ (s.eval x) (a.eval x) := by
  cases x with
  | tmp t => exact h.fr t
  | const v => exact cAV_rel v
  | global g => exact h.gl g μ
  | func f => exact .fn .nil .nil

theorem TIs.size {t : TypeId} {i : TI} (h : TIs P t i) : ∃ j, P.info? t = some j ∧ j.size = i.size := by
  obtain ⟨j, hj, hs, _⟩ := h.info; exact ⟨j, hj, hs⟩

theorem run_sizeOf {t : TypeId} {i : TI} (h : TIs P t i) (w : World) : (sizeOf t).run P w = .ok i.size w := by
  obtain ⟨j, hj, hs⟩ := h.size
  simp [sizeOf, typeInfo, hj, hs]

theorem TIs.und_agg {t : TypeId} {i : TI} (h : TIs P t i) (w : World) : (isAgg t).run P w = .ok i.isAgg w := by
  obtain ⟨d, hd, hs⟩ := h.und
  simp only [Go.isAgg, Sem.run_bind, run_underlying hd, Result.andThen_ok]
  unfold TI.isAgg
  cases d <;> simp only [shOf] at hs <;> first
    | (have he := Option.some.inj hs; rw [← he]; rfl)
    | (split at hs <;> first
        | (have he := Option.some.inj hs; rw [← he]; rfl)
        | cases hs)

/-- Of a struct: its fields, each of some size. -/
theorem TIs.struct {t : TypeId} {i : TI} {fs : List (Nat × Nat)} (h : TIs P t i) (hs : i.sh = .struct fs) :
    ∃ as : Array Field, P.underlying t = some (.struct as) ∧ fs = as.toList.map (fun f => (f.type, f.offset)) ∧ ∀ f ∈ as.toList, ∃ j, P.info? f.type = some j ∧ j.size ≠ 0 := by
  obtain ⟨d, hd, h1⟩ := h.und
  rw [hs] at h1
  cases d <;> simp only [shOf] at h1 <;> first
    | (cases h1; done)
    | (have he := Option.some.inj h1; cases he; done)
    | skip
  split at h1
  · rename_i as hall
    have he := Option.some.inj h1
    refine ⟨as, hd, (Sh.struct.inj he).symm, fun f hf => ?_⟩
    have h2 := List.all_eq_true.1 hall f hf
    split at h2
    · rename_i j hj; exact ⟨j, hj, by simpa using h2⟩
    · cases h2
  · cases h1

theorem TIs.slice {t e : TypeId} {i : TI} (h : TIs P t i) (hs : i.sh = .slice e) : P.underlying t = some (.slice e) := by
  obtain ⟨d, hd, h1⟩ := h.und
  rw [hs] at h1
  cases d <;> simp only [shOf] at h1 <;> first
    | exact hd
    | (have he := Option.some.inj h1; cases he; first | exact hd | done)
    | (split at h1 <;> first | (have he := Option.some.inj h1; cases he; done) | (cases h1; done))
theorem TIs.array {t e m : Nat} {i : TI} (h : TIs P t i) (hs : i.sh = .array m e) : P.underlying t = some (.array m e) := by
  obtain ⟨d, hd, h1⟩ := h.und
  rw [hs] at h1
  cases d <;> simp only [shOf] at h1 <;> first
    | exact hd
    | (have he := Option.some.inj h1; cases he; first | exact hd | done)
    | (split at h1 <;> first | (have he := Option.some.inj h1; cases he; done) | (cases h1; done))
theorem TIs.string {t : TypeId} {i : TI} (h : TIs P t i) (hs : i.sh = .string) : P.underlying t = some .string := by
  obtain ⟨d, hd, h1⟩ := h.und
  rw [hs] at h1
  cases d <;> simp only [shOf] at h1 <;> first
    | exact hd
    | (have he := Option.some.inj h1; cases he; first | exact hd | done)
    | (split at h1 <;> first | (have he := Option.some.inj h1; cases he; done) | (cases h1; done))
theorem TIs.bool {t : TypeId} {i : TI} (h : TIs P t i) (hs : i.sh = .bool) : P.underlying t = some .bool := by
  obtain ⟨d, hd, h1⟩ := h.und
  rw [hs] at h1
  cases d <;> simp only [shOf] at h1 <;> first
    | exact hd
    | (have he := Option.some.inj h1; cases he; first | exact hd | done)
    | (split at h1 <;> first | (have he := Option.some.inj h1; cases he; done) | (cases h1; done))
theorem TIs.int {t : TypeId} {i : TI} {k : IntKind} (h : TIs P t i) (hs : i.sh = .int k) : P.underlying t = some (.int k) := by
  obtain ⟨d, hd, h1⟩ := h.und
  rw [hs] at h1
  cases d <;> simp only [shOf] at h1 <;> first
    | exact hd
    | (have he := Option.some.inj h1; cases he; first | exact hd | done)
    | (split at h1 <;> first | (have he := Option.some.inj h1; cases he; done) | (cases h1; done))
theorem TIs.iface {t : TypeId} {i : TI} (h : TIs P t i) (hs : i.sh = .iface) : ∃ ms, P.underlying t = some (.interface ms) := by
  obtain ⟨d, hd, h1⟩ := h.und
  rw [hs] at h1
  cases d <;> simp only [shOf] at h1 <;> first
    | exact ⟨_, hd⟩
    | (have he := Option.some.inj h1; cases he; first | exact ⟨_, hd⟩ | done)
    | (split at h1 <;> first | (have he := Option.some.inj h1; cases he; done) | (cases h1; done))

/-! ### reading -/
theorem All2.value_get {cs : List C} {xs : List Value} (h : All2 (CRel w ok μ) cs xs) {j : Nat} {x : Value} (hx : xs[j]? = some x) : ∃ c, cs[j]? = some c ∧ CRel w ok μ c x := by
  have hl := h.length
  have hj : j < xs.length := by
    rcases Nat.lt_or_ge j xs.length with h' | h'
    · exact h'
    · simp [List.getElem?_eq_none h'] at hx
  have hc : cs[j]? = some (cs[j]'(hl ▸ hj)) := List.getElem?_eq_getElem _
  obtain ⟨y, hy, r⟩ := h.get hc
  rw [hx] at hy; cases hy
  exact ⟨_, hc, r⟩

theorem mkAV_rel {i : TI} {cs : List C} {xs : List Value} {v : AV} (hm : mkAV i cs = some v) (h : All2 (CRel w ok μ) cs xs) :
    (i.isAgg = true → AVRel w ok μ v (.agg xs.toArray)) ∧ (i.isAgg = false → ∃ x, xs = [x] ∧ AVRel w ok μ v x) ∧ xs.length = i.size := by
  unfold mkAV at hm
  split at hm
  · rename_i hl
    refine ⟨fun hg => ?_, fun hg => ?_, h.length ▸ hl⟩
    · rw [if_pos hg] at hm; cases hm; exact .agg h
    · rw [hg] at hm
      simp only [Bool.false_eq_true, if_false] at hm
      split at hm
      · cases hm
        cases h with
        | cons h1 h2 => cases h2; exact ⟨_, rfl, .one h1⟩
      · cases hm
  · cases hm

/-- A load of what lies at an address, cell by cell. -/
theorem run_load_cells {t : TypeId} {i : TI} (hi : TIs P t i) {ad : Addr} {xs : List Value} (hl : xs.length = i.size)
    (h : ∀ (j : Nat) x, xs[j]? = some x → w.cell? (ad.add j) = some x) :
    (loadVar t ad).run P w = .ok (if i.isAgg then .agg xs.toArray else xs.getD 0 undef) w ∨ (i.isAgg = false ∧ xs.length ≠ 1) := by
  by_cases hg : i.isAgg = true
  · left
    have h1 := run_loadCells_list (P := P) (w := w) ad xs h
    simp only [loadVar, Sem.run_bind, hi.und_agg, Result.andThen_ok, hg, if_true, run_sizeOf hi, ← hl, h1, Sem.run_pure]
  · have hg' : i.isAgg = false := by simpa using hg
    by_cases h1 : xs.length = 1
    · left
      match xs, h1 with
      | [x], _ =>
        have hc := h 0 x rfl
        simp only [Addr.add, if_true] at hc
        simp [loadVar, hi.und_agg, hg', hc]
    · right; exact ⟨hg', h1⟩

theorem flatten_get {α : Type} {k : Nat} : ∀ {rows : List (List α)} {r : Nat} {row : List α}, (∀ x ∈ rows, x.length = k) → rows[r]? = some row → ∀ j, j < k → rows.flatten[r * k + j]? = row[j]?
  | [], r, row, _, h, _, _ => by simp at h
  | x :: rows, 0, row, hk, h, j, hj => by
    simp at h; subst h
    have hx := hk x (by simp)
    simp [List.getElem?_append, hx, hj]
  | x :: rows, r + 1, row, hk, h, j, hj => by
    have hx := hk x (by simp)
    have h1 : rows[r]? = some row := by simpa using h
    have ih := flatten_get (fun y hy => hk y (by simp [hy])) h1 j hj
    simp only [List.flatten_cons, List.getElem?_append]
    rw [if_neg (by rw [hx]; have : k ≤ (r + 1) * k := Nat.le_mul_of_pos_left k (by omega); omega), hx, ← ih]
    congr 1
    rw [Nat.add_mul]; omega

theorem map_v_rel {l : List V} {xs : List Value} (h : All2 (VRel w ok) l xs) : All2 (CRel w ok μ) (l.map .v) xs := All2.map_left (h.mono fun _ _ h => .v h)

theorem loadAV_cells {i : TI} {v r : AV} {x : Value} (hr : HR w ok μ s.hp) (hl : loadAV i s.hp v = some r) (hv : AVRel w ok μ v x) :
    ∃ (ad : Addr) (cs : List C) (xs : List Value), x = .pointer (some ad) ∧ ad.spot = none ∧ mkAV i cs = some r ∧ All2 (CRel w ok μ) cs xs ∧ ∀ (j : Nat) y, xs[j]? = some y → w.cell? (ad.add j) = some y := by
  unfold loadAV at hl
  split at hl
  · rename_i b off
    split at hl
    · rename_i t cs hb
      obtain ⟨m, hm, hbr⟩ := hr.rel _ _ hb
      cases hv with
      | one hc =>
        cases hc with
        | ptr _ hμ =>
          rw [hμ] at hm; cases hm
          obtain ⟨xs, hh, hall⟩ := hbr
          refine ⟨_, _, _, rfl, rfl, hl, (hall.drop off).take i.size, ?_⟩
          intro j y hy
          rw [List.getElem?_take] at hy
          split at hy
          · rw [List.getElem?_drop] at hy
            rw [Addr.add_lit, cell_of_row w _ _ _ _ _ hh]
            simpa using hy
          · cases hy
    · cases hl
  · rename_i b r' k off
    split at hl
    · rename_i e k' rows hb
      split at hl
      · rename_i hk
        subst hk
        split at hl
        · rename_i row hrow
          obtain ⟨m, hm, hbr⟩ := hr.rel _ _ hb
          cases hv with
          | one hc =>
            cases hc with
            | eptr _ _ _ hμ =>
              rw [hμ] at hm; cases hm
              obtain ⟨xs, hown, hall, hk⟩ := hbr
              have hmem := List.mem_of_getElem? hrow
              have hrl := hk row hmem
              have hget : ∀ j, j < k' → xs[r' * k' + j]? = ((xs.drop (r' * k')).take k')[j]? := by
                intro j hj; rw [List.getElem?_take, if_pos hj, List.getElem?_drop]
              have hrow2 : All2 (VRel w ok) row ((xs.drop (r' * k')).take k') := by
                have h1 := (hall.drop (r' * k')).take k'
                have : (rows.flatten.drop (r' * k')).take k' = row := by
                  apply List.ext_getElem?
                  intro j
                  rw [List.getElem?_take]
                  split
                  · rename_i hj; rw [List.getElem?_drop, flatten_get hk hrow j hj]
                  · rw [List.getElem?_eq_none (by omega)]
                rwa [this] at h1
              refine ⟨_, _, _, rfl, rfl, hl, map_v_rel ((hrow2.drop off).take i.size), ?_⟩
              intro j y hy
              rw [List.getElem?_take] at hy
              split at hy
              · rw [List.getElem?_drop, List.getElem?_take] at hy
                split at hy
                · rw [List.getElem?_drop] at hy
                  rw [Addr.add_lit]
                  have h2 := hown.cells (g := _) rfl (r' * k' + (off + j)) y hy
                  rw [Addr.add_lit] at h2
                  simpa [Nat.add_assoc] using h2
                · cases hy
              · cases hy
        · cases hl
      · cases hl
    · cases hl
  · rename_i cs
    cases hv with
    | one hc =>
      cases hc with
      | vptr b off cv hok hcell hrel =>
        have hall : All2 (VRel w ok) cs ((List.range cs.length).map cv) := by
          refine All2.of_get (by simp) ?_
          intro j v y hj hy
          have hjl : j < cs.length := by
            rcases Nat.lt_or_ge j cs.length with h' | h'
            · exact h'
            · simp [List.getElem?_eq_none h'] at hj
          simp [List.getElem?_map, List.getElem?_range hjl] at hy
          subst hy
          exact hrel j v hj
        refine ⟨_, _, _, rfl, rfl, hl, map_v_rel (hall.take i.size), ?_⟩
        intro j y hy
        rw [List.getElem?_take] at hy
        split at hy
        · by_cases hjl : j < cs.length
          · simp [List.getElem?_map, List.getElem?_range hjl] at hy
            subst hy
            rw [Addr.add_lit]
            exact hcell j _ (List.getElem?_eq_getElem hjl)
          · rw [List.getElem?_eq_none (by simp; omega)] at hy; cases hy
        · cases hy
  · cases hl

theorem load_sound {t : TypeId} {i : TI} {v r : AV} {x : Value} (hr : HR w ok μ s.hp) (hi : tiOf P t = some i) (hl : loadAV i s.hp v = some r) (hv : AVRel w ok μ v x) :
    ∃ y, (Instr.loadAt t x).run P w = .ok y w ∧ AVRel w ok μ r y := by
  have hti := tiOf_spec hi
  obtain ⟨ad, cs, xs, rfl, hspot, hm, hall, hcell⟩ := loadAV_cells hr hl hv
  obtain ⟨h1, h2, h3⟩ := mkAV_rel hm hall
  simp only [Instr.loadAt, Instr.sureAddr, Sem.run_bind, Sem.run_pure, Result.andThen_ok]
  rcases run_load_cells (P := P) hti h3 hcell with h | ⟨hg, hne⟩
  · rw [h]
    by_cases hg : i.isAgg = true
    · rw [if_pos hg]; exact ⟨_, rfl, h1 hg⟩
    · have hg' : i.isAgg = false := by simpa using hg
      obtain ⟨y, rfl, hy⟩ := h2 hg'
      rw [if_neg hg]; exact ⟨_, rfl, by simpa using hy⟩
  · obtain ⟨y, rfl, _⟩ := h2 hg; simp at hne

end
end Go.Proofs.AE
