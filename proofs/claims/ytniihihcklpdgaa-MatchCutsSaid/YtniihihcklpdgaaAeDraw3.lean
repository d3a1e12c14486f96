/- The abstract evaluator, part 12c: one run in one order tells of all orders. -/
import Derived.Test.YtniihihcklpdgaaAeDraw2
set_option linter.unusedVariables false
set_option linter.unusedSimpArgs false
namespace Go.Proofs.AE
open Go Go.RowKit

/-- One step of a region, as the evaluator has it. -/
def DStep (P : Program) (o : AOp) (s s' : S) : Prop :=
  s'.gl = s.gl ∧
  ((∃ v, (o.g = none ∨ ∃ t b, o.g = some (t, b) ∧ getF s.fr t = bl b) ∧ DAct P s.gl s.hp s.eval o.op v s'.hp ∧ ∀ t, getF s'.fr t = if o.dst = some t then v else getF s.fr t) ∨
   ((∃ t b, o.g = some (t, b) ∧ (getF s.fr t = bl (!b) ∨ getF s.fr t = .tup [])) ∧ s'.hp = s.hp ∧ ∀ t, getF s'.fr t = if o.dst = some t then .tup [] else getF s.fr t))

/-- What a slot holds when the steps of X are done. -/
def valAt (st : Nat → S) (d : Nat → Option Nat) (X : List Nat) (t : Nat) : Nat → AV
  | 0 => getF (st 0).fr t
  | k + 1 => if k ∈ X ∧ d k = some t then getF (st (k + 1)).fr t else valAt st d X t k

def hpAt (st : Nat → S) (eff : Nat → Bool) (X : List Nat) : Nat → Hp
  | 0 => (st 0).hp
  | k + 1 => if k ∈ X ∧ eff k = true then (st (k + 1)).hp else hpAt st eff X k

section
variable {st : Nat → S} {d : Nat → Option Nat} {eff : Nat → Bool} {X : List Nat} {N : Nat}

theorem valAt_full (hf : ∀ k, k < N → ∀ t, d k ≠ some t → getF (st (k + 1)).fr t = getF (st k).fr t) {t : Nat} : ∀ {k : Nat}, k ≤ N → (∀ l, l < k → d l = some t → l ∈ X) → valAt st d X t k = getF (st k).fr t
  | 0, _, _ => rfl
  | k + 1, hk, h => by
    simp only [valAt]
    by_cases hd : d k = some t
    · rw [if_pos ⟨h k (Nat.lt_succ_self k) hd, hd⟩]
    · rw [if_neg (fun h => hd h.2), valAt_full hf (by omega) fun l hl => h l (by omega)]
      exact (hf k (by omega) t hd).symm

theorem valAt_skip {t : Nat} : ∀ {m k : Nat}, k ≤ m → (∀ l, k ≤ l → l < m → d l = some t → l ∉ X) → valAt st d X t m = valAt st d X t k
  | 0, k, hk, _ => by rw [Nat.le_zero.1 hk]
  | m + 1, k, hk, h => by
    by_cases he : k = m + 1
    · rw [he]
    · simp only [valAt]
      rw [if_neg (fun hh => h m (by omega) (by omega) hh.2 hh.1)]
      exact valAt_skip (by omega) fun l h1 h2 => h l h1 (by omega)

theorem hpAt_full (hf : ∀ k, k < N → eff k = false → (st (k + 1)).hp = (st k).hp) : ∀ {k : Nat}, k ≤ N → (∀ l, l < k → eff l = true → l ∈ X) → hpAt st eff X k = (st k).hp
  | 0, _, _ => rfl
  | k + 1, hk, h => by
    simp only [hpAt]
    by_cases hd : eff k = true
    · rw [if_pos ⟨h k (Nat.lt_succ_self k) hd, hd⟩]
    · rw [if_neg (fun h => hd h.2), hpAt_full hf (by omega) fun l hl => h l (by omega)]
      exact (hf k (by omega) (by simpa using hd)).symm

theorem hpAt_skip : ∀ {m k : Nat}, k ≤ m → (∀ l, k ≤ l → l < m → eff l = true → l ∉ X) → hpAt st eff X m = hpAt st eff X k
  | 0, k, hk, _ => by rw [Nat.le_zero.1 hk]
  | m + 1, k, hk, h => by
    by_cases he : k = m + 1
    · rw [he]
    · simp only [hpAt]
      rw [if_neg (fun hh => h m (by omega) (by omega) hh.2 hh.1)]
      exact hpAt_skip (by omega) fun l h1 h2 => h l h1 (by omega)

theorem valAt_cons {t k : Nat} (hne : d k ≠ some t) : ∀ {m : Nat}, valAt st d (k :: X) t m = valAt st d X t m
  | 0 => rfl
  | m + 1 => by
    simp only [valAt, valAt_cons hne (m := m)]
    by_cases hm : m = k
    · subst hm; rw [if_neg (fun h => hne h.2), if_neg (fun h => hne h.2)]
    · simp [hm]

theorem hpAt_cons {k : Nat} (hne : eff k = false) : ∀ {m : Nat}, hpAt st eff (k :: X) m = hpAt st eff X m
  | 0 => rfl
  | m + 1 => by
    simp only [hpAt, hpAt_cons hne (m := m)]
    by_cases hm : m = k
    · subst hm; simp [hne]
    · simp [hm]
end

section
variable {P : Program} {G : Nat → AV} {k0 n : Nat} {w0 : World} {ok0 : Nat → Prop} {μ0 : List MB} {hp0 : Hp}

/-- The relation of a partial run. -/
structure Part (k0 n : Nat) (w0 : World) (ok0 : Nat → Prop) (μ0 : List MB) (hp0 : Hp) (G : Nat → AV) (val : Nat → AV) (hp : Hp) (a : Act) (w : World) : Prop where
  ex : ∃ ok μ, HR w ok μ hp ∧ a.tmps.size = n ∧ a.defers = [] ∧ (∀ t, AVRel w ok μ (val t) (a.tmps.getD t undef)) ∧ GRel w ok G ∧ Far k0 w0 ok0 μ0 hp0 w ok μ hp

theorem Part.congr {val val' : Nat → AV} {hp hp' : Hp} {a : Act} {w : World} (h : Part k0 n w0 ok0 μ0 hp0 G val hp a w) (hv : ∀ t, val t = val' t) (hh : hp = hp') : Part k0 n w0 ok0 μ0 hp0 G val' hp' a w := by
  subst hh
  obtain ⟨ok, μ, h1, h2, h3, h4, h5, h6⟩ := h.ex
  exact ⟨ok, μ, h1, h2, h3, fun t => hv t ▸ h4 t, h5, h6⟩

theorem slot_put {w : World} {ok : Nat → Prop} {μ : List MB} {val val' : Nat → AV} {a : Act} {d : Option Nat} {x : Value} {v : AV} (hs : a.tmps.size = n) (hd : ∀ t, d = some t → t < n)
    (h : ∀ t, AVRel w ok μ (val t) (a.tmps.getD t undef)) (hx : AVRel w ok μ v x) (hv : ∀ t, val' t = if d = some t then v else val t) : ∀ t, AVRel w ok μ (val' t) ((a.put d x).tmps.getD t undef) := by
  intro t
  rw [hv t]
  cases d with
  | none => simpa [Act.put] using h t
  | some u =>
    have hlt := hd u rfl
    simp only [Act.put, Option.some.injEq]
    by_cases hu : u = t
    · subst hu
      rw [if_pos rfl]
      simp [Array.getD_eq_getD_getElem?, hs, hlt, hx]
    · rw [if_neg hu]
      simp only [Array.getD_eq_getD_getElem?, Array.getElem?_setIfInBounds_ne hu]
      have := h t
      rwa [Array.getD_eq_getD_getElem?] at this

/-- What is asked of one order (ord) in which the evaluator has run the region (al: its operations in that order; st: the states). -/
structure Told (P : Program) (G : Nat → AV) (n : Nat) (ops : Array Oper) (ord : List Nat) (al : List AOp) (st : Nat → S) : Prop where
  acyc : acyc ops = true
  len : al.length = ord.length
  comp : ∀ (k i : Nat) ao, ord[k]? = some i → al[k]? = some ao → ∃ o, ops[i]? = some o ∧ compOp n ops o = some ao
  nodup : ord.Nodup
  all : ∀ i, i < ops.size → i ∈ ord
  step : ∀ (k : Nat) ao, al[k]? = some ao → DStep P ao (st k) (st (k + 1))
  gl : (st 0).gl = G
  names : ∀ (k l i j : Nat) (a b : AOp) (t : Nat), k ≠ l → ord[k]? = some i → ord[l]? = some j → al[k]? = some a → al[l]? = some b → b.dst = some t → t ∈ namesOf a → (l < k → ancB (ancT ops) i j = true) ∧ (k < l → ancB (ancT ops) j i = true)
  stable : ∀ (k l i j : Nat) (a b : AOp), ord[k]? = some i → ord[l]? = some j → al[k]? = some a → al[l]? = some b → isReader a.op = true → isEff a.op = false → isEff b.op = true →
      (k < l → ancB (ancT ops) j i = false) → (l < k → ancB (ancT ops) i j = false) → pureOp P (st (l + 1)).hp (st k).eval a.op = pureOp P (st l).hp (st k).eval a.op

theorem Told.glk {ops : Array Oper} {ord : List Nat} {al : List AOp} {st : Nat → S} (T : Told P G n ops ord al st) : ∀ k, k ≤ al.length → (st k).gl = G
  | 0, _ => T.gl
  | k + 1, hk => by
    have := T.step k _ (List.getElem?_eq_getElem (by omega))
    rw [this.1]; exact T.glk k (by omega)

def effOf (al : List AOp) (k : Nat) : Bool := match al[k]? with | some a => isEff a.op | none => false
def dstOf (al : List AOp) (k : Nat) : Option Nat := (al[k]?).bind (·.dst)

theorem Told.frame {ops : Array Oper} {ord : List Nat} {al : List AOp} {st : Nat → S} (T : Told P G n ops ord al st) : ∀ k, k < al.length → ∀ t, dstOf al k ≠ some t → getF (st (k + 1)).fr t = getF (st k).fr t := by
  intro k hk t hne
  have ha := List.getElem?_eq_getElem hk
  have hd : (al[k]).dst ≠ some t := by simpa [dstOf, ha] using hne
  obtain ⟨_, h | h⟩ := T.step k _ ha
  · obtain ⟨v, _, _, h3⟩ := h; rw [h3 t, if_neg hd]
  · obtain ⟨_, _, h3⟩ := h; rw [h3 t, if_neg hd]

theorem Told.heap {ops : Array Oper} {ord : List Nat} {al : List AOp} {st : Nat → S} (T : Told P G n ops ord al st) : ∀ k, k < al.length → effOf al k = false → (st (k + 1)).hp = (st k).hp := by
  intro k hk he
  have ha := List.getElem?_eq_getElem hk
  have he' : isEff (al[k]).op = false := by simpa [effOf, ha] using he
  obtain ⟨_, h | h⟩ := T.step k _ ha
  · obtain ⟨v, _, h2, _⟩ := h; exact h2.keeps he'
  · exact h.2.1

theorem operand_names {o : AOp} {x : Operand} {t : Nat} (hx : x ∈ o.op.operands) (ht : x = .tmp t) : t ∈ namesOf o := by
  unfold namesOf
  rw [List.mem_append, List.mem_append]
  left; right
  rw [List.mem_filterMap]
  exact ⟨x, by simpa using hx, by rw [ht]⟩

/-- All orders that do the effects in the order of ord. -/
theorem told_run {ops : Array Oper} {ord : List Nat} {al : List AOp} {st : Nat → S} (T : Told P G n ops ord al st) {Q : Exit → Act → World → Prop}
    (hQ : ∀ a w, Part k0 n w0 ok0 μ0 hp0 G (fun t => getF (st al.length).fr t) (st al.length).hp a w → Q .normal a w) :
    ∀ (π : List Nat) (X : List Nat) (m : Nat) (a : Act) (w : World), Topo ops (fun i => ∃ k ∈ X, ord[k]? = some i) π → (∀ k ∈ X, k < ord.length) →
      (∀ i o e, (∃ k ∈ X, ord[k]? = some i) → ops[i]? = some o → e ∈ edgesOf o → ∃ k ∈ X, ord[k]? = some e) →
      (∀ i, i < ops.size → (∃ k ∈ X, ord[k]? = some i) ∨ i ∈ π) →
      m ≤ al.length → (∀ l, effOf al l = true → (l ∈ X ↔ l < m)) → (π.filter fun i => match ops[i]? with | some o => isEff o.op | none => false) = (ord.drop m).filter (fun i => match ops[i]? with | some o => isEff o.op | none => false) →
      Part k0 n w0 ok0 μ0 hp0 G (fun t => valAt st (dstOf al) X t al.length) (hpAt st (effOf al) X al.length) a w → wpOps P ops Q π a w := by
  intro π
  induction π with
  | nil =>
    intro X m a w _ hXlt hXc hall hm hme hpi hpart
    -- all is done
    have hX : ∀ k, k < al.length → k ∈ X := by
      intro k hk
      have hk' : k < ord.length := by rw [← T.len]; exact hk
      have hi : ord[k]? = some ord[k] := List.getElem?_eq_getElem hk'
      obtain ⟨ao, hao⟩ : ∃ ao, al[k]? = some ao := ⟨_, List.getElem?_eq_getElem hk⟩
      obtain ⟨o, ho, _⟩ := T.comp k _ ao hi hao
      have hlt : ord[k] < ops.size := (Array.getElem?_eq_some_iff.1 ho).1
      rcases hall _ hlt with ⟨k', hk'', he⟩ | h
      · have := getElem?_nodup T.nodup he hi
        subst this; exact hk''
      · cases h
    refine hQ a w (hpart.congr (fun t => ?_) ?_)
    · exact valAt_full (N := al.length) T.frame (Nat.le_refl _) fun l hl _ => hX l hl
    · exact hpAt_full (N := al.length) T.heap (Nat.le_refl _) fun l hl _ => hX l hl
  | cons i π ih =>
    intro X m a w htopo hXlt hXc hall hm hme hpi hpart
    obtain ⟨hnX, ⟨o, ho, hdeps⟩, htail⟩ := htopo
    have hisz : i < ops.size := (Array.getElem?_eq_some_iff.1 ho).1
    obtain ⟨k, hk⟩ : ∃ k, ord[k]? = some i := List.getElem?_of_mem (T.all i hisz)
    have hklt : k < ord.length := lt_of_getElem? hk
    have hkal : k < al.length := by rw [T.len]; exact hklt
    have hkX : k ∉ X := fun h => hnX ⟨k, h, hk⟩
    obtain ⟨ao, hao⟩ : ∃ ao, al[k]? = some ao := ⟨_, List.getElem?_eq_getElem hkal⟩
    obtain ⟨o', ho', hcomp⟩ := T.comp k i ao hk hao
    rw [ho] at ho'; cases ho'
    obtain ⟨⟨hdst, hop⟩, hdlt, hguard⟩ := compOp_spec hcomp
    -- what is done is closed
    have hanc : ∀ l j, ord[l]? = some j → ancB (ancT ops) i j = true → l ∈ X := by
      intro l j hl h
      obtain ⟨o2, h2, e, he, h3⟩ := ancT_spec h
      rw [ho] at h2; cases h2
      have hce := hdeps e he
      have : ∃ q ∈ X, ord[q]? = some j := by
        rcases h3 with rfl | h3
        · exact hce
        · exact closed_anc T.acyc (X := fun i => ∃ k ∈ X, ord[k]? = some i) hXc e j hce h3
      obtain ⟨q, hq, hqj⟩ := this
      have := getElem?_nodup T.nodup hqj hl
      subst this; exact hq
    have hancX : ∀ l j, l ∈ X → ord[l]? = some j → ancB (ancT ops) j i = false := by
      intro l j hl hlj
      cases h : ancB (ancT ops) j i with
      | false => rfl
      | true =>
        exfalso
        have := closed_anc T.acyc (X := fun i => ∃ k ∈ X, ord[k]? = some i) hXc j i ⟨l, hl, hlj⟩ h
        exact hnX this
    -- the slots that it names hold what they held in the told run
    have hslot : ∀ t, t ∈ namesOf ao → valAt st (dstOf al) X t al.length = getF (st k).fr t := by
      intro t ht
      have wr : ∀ l, l < al.length → l ≠ k → dstOf al l = some t → (l < k → l ∈ X) ∧ (k < l → l ∉ X) := by
        intro l hl hne hd
        have hb := List.getElem?_eq_getElem hl
        have hd' : (al[l]).dst = some t := by simpa [dstOf, hb] using hd
        have hlo : ord[l]? = some (ord[l]'(by rw [← T.len]; exact hl)) := List.getElem?_eq_getElem _
        obtain ⟨q1, q2⟩ := T.names k l i _ ao _ t (fun e => hne e.symm) hk hlo hao hb hd' ht
        refine ⟨fun h => hanc l _ hlo (q1 h), fun h hx => ?_⟩
        have := hancX l _ hx hlo
        rw [q2 h] at this; cases this
      rw [valAt_skip (k := k) (by omega) fun l h1 h2 h3 => ?_]
      · exact valAt_full (N := al.length) T.frame (by omega) fun l hl hd => (wr l (by omega) (by omega) hd).1 hl
      · by_cases hlk : l = k
        · subst hlk; exact hkX
        · exact (wr l h2 hlk h3).2 (by omega)
    obtain ⟨ok, μ, hr, hsz, hdf, hval, hgrel, hfar⟩ := hpart.ex
    -- the values of its operands
    let evX : Operand → AV := fun x => match x with | .tmp t => valAt st (dstOf al) X t al.length | .const v => cAV v | .global g => G g | .func f => .fn f [] []
    have hevX : ∀ x, AVRel w ok μ (evX x) (a.eval x) := by
      intro x
      cases x with
      | tmp t => exact hval t
      | const v => exact cAV_rel v
      | global g => exact hgrel g μ
      | func f => exact .fn .nil .nil
    have hglk := T.glk k (by omega)
    have hevs : ∀ x ∈ ao.op.operands, (st k).eval x = evX x := by
      intro x hx
      cases x with
      | tmp t => exact (hslot t (operand_names hx rfl)).symm
      | const v => rfl
      | global g => show (st k).gl g = G g; rw [hglk]
      | func f => rfl
    have hsstep := T.step k ao hao
    -- the memory
    have heffk : effOf al k = isEff o.op := by simp [effOf, hao, hop]
    have hpik : isEff o.op = true → k = m ∨ m < k := by
      intro he
      by_cases hlt : k < m
      · exact (hkX ((hme k (by rw [heffk, he])).2 hlt)).elim
      · omega
    have hnext : isEff o.op = true → (∀ l, effOf al l = true → l < k → l ∈ X) ∧ (∀ l, effOf al l = true → k < l → l ∉ X) ∧ (π.filter fun i => match ops[i]? with | some o => isEff o.op | none => false) = (ord.drop (k + 1)).filter (fun i => match ops[i]? with | some o => isEff o.op | none => false) := by
      intro he
      have hmk : m ≤ k := by rcases hpik he with h | h <;> omega
      rw [List.filter_cons] at hpi
      simp only [ho, he, if_true] at hpi
      -- the first effect of what is left stands at k
      have key : ∀ (q : Nat), m ≤ q → q ≤ k → (ord.drop m).filter (fun i => match ops[i]? with | some o => isEff o.op | none => false) = (ord.drop q).filter (fun i => match ops[i]? with | some o => isEff o.op | none => false) ∧ ∀ l, m ≤ l → l < q → effOf al l = false := by
        intro q
        induction q with
        | zero => intro h1 _; have : m = 0 := by omega
                  subst this; exact ⟨rfl, fun l h1 h2 => by omega⟩
        | succ q ihq =>
          intro h1 h2
          by_cases hmq : m = q + 1
          · subst hmq; exact ⟨rfl, fun l h1 h2 => by omega⟩
          · obtain ⟨e1, e2⟩ := ihq (by omega) (by omega)
            have hqlt : q < ord.length := by omega
            have hdrop : ord.drop q = ord[q] :: ord.drop (q + 1) := List.drop_eq_getElem_cons hqlt
            by_cases heq : effOf al q = true
            · exfalso
              obtain ⟨aq, haq⟩ : ∃ aq, al[q]? = some aq := ⟨_, List.getElem?_eq_getElem (by omega)⟩
              obtain ⟨oq, hoq, hcq⟩ := T.comp q _ aq (List.getElem?_eq_getElem hqlt) haq
              have hopq := (compOp_spec hcq).1.2
              have heq' : isEff oq.op = true := by simpa [effOf, haq, hopq] using heq
              rw [e1, hdrop, List.filter_cons] at hpi
              simp only [hoq, heq', if_true, List.cons.injEq] at hpi
              have hki : ord[q]? = some i := by rw [List.getElem?_eq_getElem hqlt, hpi.1]
              have := getElem?_nodup T.nodup hki hk
              omega
            · have heq' : effOf al q = false := by simpa using heq
              refine ⟨?_, fun l h3 h4 => ?_⟩
              · obtain ⟨aq, haq⟩ : ∃ aq, al[q]? = some aq := ⟨_, List.getElem?_eq_getElem (by omega)⟩
                obtain ⟨oq, hoq, hcq⟩ := T.comp q _ aq (List.getElem?_eq_getElem hqlt) haq
                have hopq := (compOp_spec hcq).1.2
                have heq'' : isEff oq.op = false := by simpa [effOf, haq, hopq] using heq'
                rw [e1, hdrop, List.filter_cons]
                simp [hoq, heq'']
              · by_cases hlq : l = q
                · subst hlq; exact heq'
                · exact e2 l h3 (by omega)
      obtain ⟨e1, e2⟩ := key k hmk (Nat.le_refl _)
      refine ⟨fun l hl hlk => (hme l hl).2 ?_, fun l hl hlk hx => ?_, ?_⟩
      · by_cases hml : l < m
        · exact hml
        · have := e2 l (by omega) hlk; rw [this] at hl; cases hl
      · have := (hme l hl).1 hx; omega
      · rw [e1, List.drop_eq_getElem_cons hklt, List.filter_cons] at hpi
        have hoi : ord[k] = i := by rw [List.getElem?_eq_getElem hklt] at hk; exact Option.some.inj hk
        simp only [hoi, ho, he, if_true, List.cons.injEq, true_and] at hpi
        exact hpi
    have hheap : isEff o.op = true → hpAt st (effOf al) X al.length = (st k).hp := by
      intro he
      obtain ⟨h1, h2, _⟩ := hnext he
      rw [hpAt_skip (k := k) (by omega) fun l h3 h4 h5 => ?_]
      · exact hpAt_full (N := al.length) T.heap (by omega) fun l hl hl2 => h1 l hl2 hl
      · by_cases hlk : l = k
        · subst hlk; exact hkX
        · exact h2 l h5 (by omega)
    have hpure : isEff o.op = false → pureOp P (hpAt st (effOf al) X al.length) (st k).eval ao.op = pureOp P (st k).hp (st k).eval ao.op := by
      intro he
      by_cases hrd : isReader ao.op = true
      · have hmat : hpAt st (effOf al) X al.length = (st m).hp := by
          rw [hpAt_skip (k := m) (by omega) fun l h3 h4 h5 hx => by have := (hme l h5).1 hx; omega]
          exact hpAt_full (N := al.length) T.heap (by omega) fun l hl hl2 => (hme l hl2).2 hl
        rw [hmat]
        have one : ∀ l, l < al.length → (k ≤ l → l < m) → (l < k → m ≤ l) → pureOp P (st (l + 1)).hp (st k).eval ao.op = pureOp P (st l).hp (st k).eval ao.op := by
          intro l hl q1 q2
          by_cases hle : effOf al l = true
          · obtain ⟨al', hal⟩ : ∃ al', al[l]? = some al' := ⟨_, List.getElem?_eq_getElem hl⟩
            have hlo : ord[l]? = some (ord[l]'(by rw [← T.len]; exact hl)) := List.getElem?_eq_getElem _
            refine T.stable k l i _ ao al' hk hlo hao hal hrd (by rw [hop]; exact he) (by simpa [effOf, hal] using hle) (fun h => ?_) (fun h => ?_)
            · exact hancX l _ ((hme l hle).2 (q1 (by omega))) hlo
            · cases hb : ancB (ancT ops) i (ord[l]'(by rw [← T.len]; exact hl)) with
              | false => rfl
              | true => exfalso; have := (hme l hle).1 (hanc l _ hlo hb); have := q2 h; omega
          · rw [T.heap l hl (by simpa using hle)]
        -- from m to k
        rcases Nat.le_total m k with hmk | hkm
        · have : ∀ q, m + q ≤ k → pureOp P (st (m + q)).hp (st k).eval ao.op = pureOp P (st m).hp (st k).eval ao.op := by
            intro q
            induction q with
            | zero => intro _; rfl
            | succ q ihq => intro h; rw [← ihq (by omega)]; exact one (m + q) (by omega) (fun h => by omega) (fun h => by omega)
          have := this (k - m) (by omega)
          rw [show m + (k - m) = k by omega] at this
          exact this.symm
        · have : ∀ q, k + q ≤ m → pureOp P (st (k + q)).hp (st k).eval ao.op = pureOp P (st k).hp (st k).eval ao.op := by
            intro q
            induction q with
            | zero => intro _; rfl
            | succ q ihq => intro h; rw [← ihq (by omega)]; exact one (k + q) (by omega) (fun h => by omega) (fun h => by omega)
          have := this (m - k) (by omega)
          rwa [show k + (m - k) = m by omega] at this
      · exact pureOp_hp (by simpa using hrd)
    -- what is left, behind it
    have hdone : ∀ (v : AV) (x : Value) (a' : Act) (w' : World), a' = a.put o.dst x → getF (st (k + 1)).fr = (fun t => if ao.dst = some t then v else getF (st k).fr t) →
        Part k0 n w0 ok0 μ0 hp0 G (fun t => if o.dst = some t then v else valAt st (dstOf al) X t al.length) (if isEff o.op then (st (k + 1)).hp else hpAt st (effOf al) X al.length) a' w' → wpOps P ops Q π a' w' := by
      intro v x a' w' _ hfr hp
      have hset : ∀ j, (∃ q ∈ X, ord[q]? = some j) ∨ j = i ↔ ∃ q ∈ k :: X, ord[q]? = some j := by
        intro j
        constructor
        · rintro (⟨q, h1, h2⟩ | rfl)
          · exact ⟨q, List.mem_cons_of_mem _ h1, h2⟩
          · exact ⟨k, List.mem_cons_self .., hk⟩
        · rintro ⟨q, h1, h2⟩
          rcases List.mem_cons.1 h1 with rfl | h1
          · rw [hk] at h2; cases h2; exact .inr rfl
          · exact .inl ⟨q, h1, h2⟩
      refine ih (k :: X) (if isEff o.op then k + 1 else m) a' w' (topo_congr hset htail) ?_ ?_ ?_ ?_ ?_ ?_ (hp.congr (fun t => ?_) ?_)
      · intro q hq; rcases List.mem_cons.1 hq with rfl | hq
        · exact hklt
        · exact hXlt q hq
      · rintro j oj e hj hoj he
        rcases (hset j).2 hj with h | rfl
        · exact (hset e).1 (.inl (hXc j oj e h hoj he))
        · rw [ho] at hoj; cases hoj
          exact (hset e).1 (.inl (hdeps e he))
      · intro j hj
        rcases hall j hj with h | h
        · exact .inl ((hset j).1 (.inl h))
        · rcases List.mem_cons.1 h with rfl | h
          · exact .inl ((hset j).1 (.inr rfl))
          · exact .inr h
      · split <;> omega
      · intro l hl
        cases he : isEff o.op with
        | true =>
          obtain ⟨h1, h2, _⟩ := hnext he
          simp only [if_true]
          constructor
          · intro hx; rcases List.mem_cons.1 hx with rfl | hx
            · omega
            · by_cases hlk : l ≤ k
              · omega
              · exact (h2 l hl (by omega) hx).elim
          · intro hlt
            by_cases hlk : l = k
            · subst hlk; exact List.mem_cons_self ..
            · exact List.mem_cons_of_mem _ (h1 l hl (by omega))
        | false =>
          simp only [Bool.false_eq_true, if_false]
          rw [← hme l hl]
          constructor
          · intro hx; rcases List.mem_cons.1 hx with rfl | hx
            · rw [heffk, he] at hl; cases hl
            · exact hx
          · exact List.mem_cons_of_mem _
      · cases he : isEff o.op with
        | true => simp only [if_true]; exact (hnext he).2.2
        | false =>
          simp only [Bool.false_eq_true, if_false]
          rw [List.filter_cons] at hpi
          simpa [ho, he] using hpi
      · -- the slots
        by_cases hd : o.dst = some t
        · rw [if_pos hd]
          have hdk : dstOf al k = some t := by simp [dstOf, hao, hdst, hd]
          have hmem : t ∈ namesOf ao := by unfold namesOf; rw [hdst, hd]; simp
          have later : ∀ l, k + 1 ≤ l → l < al.length → dstOf al l = some t → l ∉ k :: X := by
            intro l h1 h2 h3 hx
            rcases List.mem_cons.1 hx with rfl | hx
            · omega
            · have hb := List.getElem?_eq_getElem h2
              have hd' : (al[l]).dst = some t := by simpa [dstOf, hb] using h3
              have hlo : ord[l]? = some (ord[l]'(by rw [← T.len]; exact h2)) := List.getElem?_eq_getElem _
              have := (T.names k l i _ ao _ t (by omega) hk hlo hao hb hd' hmem).2 (by omega)
              rw [hancX l _ hx hlo] at this; cases this
          rw [valAt_skip (k := k + 1) (by omega) later]
          simp only [valAt]
          rw [if_pos ⟨List.mem_cons_self .., hdk⟩, hfr]
          simp [hdst, hd]
        · rw [if_neg hd]
          exact (valAt_cons (by simp [dstOf, hao, hdst, hd])).symm
      · cases he : isEff o.op with
        | true =>
          obtain ⟨h1, h2, _⟩ := hnext he
          simp only [if_true]
          rw [hpAt_skip (k := k + 1) (by omega) fun l h3 h4 h5 hx => ?_]
          · simp only [hpAt]; rw [if_pos ⟨List.mem_cons_self .., by rw [heffk, he]⟩]
          · rcases List.mem_cons.1 hx with rfl | hx
            · omega
            · exact h2 l h5 (by omega) hx
        | false =>
          simp only [Bool.false_eq_true, if_false]
          exact (hpAt_cons (by rw [heffk, he])).symm
    -- the step itself
    obtain ⟨hglstep, hstep⟩ := hsstep
    have run : ∀ v, DAct P (st k).gl (st k).hp (st k).eval ao.op v (st (k + 1)).hp → (∀ t, getF (st (k + 1)).fr t = if ao.dst = some t then v else getF (st k).fr t) → o.wp P a w (wpOps P ops Q π) Q := by
      intro v hact hfr
      have hact2 := hact.move (hq := hpAt st (effOf al) X al.length) hevs (fun he => hheap (by rw [← hop]; exact he)) (fun he => hpure (by rw [← hop]; exact he))
      rw [hop, hglk] at hact2
      refine dact_sound hr hgrel hevX hact2 (K := wpOps P ops Q π) ?_
      intro x w' ok' μ' hs hrel
      refine hdone v x _ w' rfl (funext hfr) ⟨ok', μ', hs.hr, by rw [Act.put_size]; exact hsz, by cases o.dst <;> exact hdf, ?_, fun g ν => (hgrel g ν).mono (hs.keep hr) hs.oksub, hfar.trans hs.far⟩
      exact slot_put hsz hdlt (fun t => hs.av hr (hval t)) hrel fun t => rfl
    have skip : (st (k + 1)).hp = (st k).hp → (∀ t, getF (st (k + 1)).fr t = if ao.dst = some t then .tup [] else getF (st k).fr t) → wpOps P ops Q π (a.put o.dst undef) w := by
      intro hhp hfr
      refine hdone (.tup []) undef _ w rfl (funext hfr) ⟨ok, μ, ?_, by rw [Act.put_size]; exact hsz, by cases o.dst <;> exact hdf, ?_, hgrel, ?_⟩
      · cases he : isEff o.op with
        | true => simp only [if_true]; rw [hhp, ← hheap he]; exact hr
        | false => simpa using hr
      · exact slot_put hsz hdlt hval (.tup .nil) fun t => rfl
      · cases he : isEff o.op with
        | true => simp only [if_true]; rw [hhp, ← hheap he]; exact hfar
        | false => simpa using hfar
    simp only [wpOps, ho]
    have hgslot : ∀ t, t ∈ namesOf ao → AVRel w ok μ (getF (st k).fr t) (a.tmps.getD t undef) := fun t ht => by rw [← hslot t ht]; exact hval t
    have hyield : ∀ j b t, o.guard = some (j, b) → (ops[j]?).bind (·.dst) = some t → t < n → (∀ b', getF (st k).fr t = bl b' → t ∈ namesOf ao → Region.wanted o (yielded ops a.tmps) = (b' == b)) ∧ (getF (st k).fr t = .tup [] → t ∈ namesOf ao → Region.wanted o (yielded ops a.tmps) = false) := by
      intro j b t hg hj hlt
      have hltm : t < a.tmps.size := by rw [hsz]; exact hlt
      have hget : a.tmps[t]? = some (a.tmps.getD t undef) := by simp [Array.getD_eq_getD_getElem?, hltm]
      constructor
      · intro b' hb' hmem
        have hx := hgslot t hmem
        rw [hb'] at hx
        have hx' := lit_rel hx
        unfold Region.wanted
        rw [hg]
        simp only [yielded_slot hj, hget, hx']
        rfl
      · intro hb' hmem
        have hx := hgslot t hmem
        rw [hb'] at hx
        generalize hv : a.tmps.getD t undef = v at hx hget
        cases hx with | tup hx =>
        unfold Region.wanted
        rw [hg]
        simp only [yielded_slot hj, hget]
        rfl
    rcases hguard with ⟨hgn, hagn⟩ | ⟨j, b, t, hgs, hags, hj, hlt⟩
    · rw [if_pos (by simp [Region.wanted, hgn])]
      rcases hstep with ⟨v, _, h2, h3⟩ | ⟨⟨t, b, h1, _⟩, _⟩
      · exact .inl (run v h2 h3)
      · rw [hagn] at h1; cases h1
    · have hmem : t ∈ namesOf ao := by unfold namesOf; rw [hags]; simp
      obtain ⟨y1, y2⟩ := hyield j b t hgs hj hlt
      rcases hstep with ⟨v, h1, h2, h3⟩ | ⟨⟨t', b', h1, h4⟩, h2, h3⟩
      · rcases h1 with h1 | ⟨t', b', h1, h4⟩
        · rw [hags] at h1; cases h1
        · rw [hags] at h1; cases h1
          rw [if_pos (by rw [y1 b h4 hmem]; simp)]
          exact .inl (run v h2 h3)
      · rw [hags] at h1; cases h1
        have : Region.wanted o (yielded ops a.tmps) = false := by
          rcases h4 with h4 | h4
          · rw [y1 _ h4 hmem]; cases b <;> rfl
          · exact y2 h4 hmem
        rw [if_neg (by rw [this]; simp)]
        exact skip h2 h3

end
end Go.Proofs.AE
