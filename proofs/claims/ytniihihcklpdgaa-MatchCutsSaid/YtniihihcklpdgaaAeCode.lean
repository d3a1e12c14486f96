/- The abstract evaluator, part 13: what it says of code. What the evaluator says of a function's code holds of its runs. -/
import Derived.Test.YtniihihcklpdgaaAeFrz
set_option linter.unusedVariables false
set_option linter.unusedSimpArgs false
namespace Go.Proofs.AE
open Go Go.RowKit

/-- From a function's beginning to here: as Step, but of the blocks beyond the first k new ones may have taken the places. -/
structure Far (k : Nat) (w : World) (ok : Nat → Prop) (μ : List MB) (hp : Hp) (w' : World) (ok' : Nat → Prop) (μ' : List MB) (hp' : Hp) : Prop where
  hr : HR w' ok' μ' hp'
  os : w'.os = w.os
  tape : w'.tape = w.tape
  output : w'.output = w.output
  size : w.heap.size ≤ w'.heap.size
  frame : ∀ b, b < w.heap.size → ¬ OwnL hp μ b → w'.heap[b]? = w.heap[b]?
  oksub : ∀ b, ok b → ok' b
  okfrom : ∀ b, ok' b → ok b ∨ w.heap.size ≤ b ∨ OwnL hp μ b
  ownfrom : ∀ b, OwnL hp' μ' b → w.heap.size ≤ b ∨ OwnL hp μ b
  ext : ∀ (i : Nat) m, i < k → μ[i]? = some m → μ'[i]? = some m

theorem Step.far {k : Nat} {w w' : World} {ok ok' : Nat → Prop} {μ μ' : List MB} {hp hp' : Hp} (h : Step w ok μ hp w' ok' μ' hp') : Far k w ok μ hp w' ok' μ' hp' :=
  ⟨h.hr, h.os, h.tape, h.output, h.size, h.frame, h.oksub, h.okfrom, h.ownfrom, fun i m _ => h.ext i m⟩

theorem Far.step {w w' : World} {ok ok' : Nat → Prop} {μ μ' : List MB} {hp hp' : Hp} (h : Far μ.length w ok μ hp w' ok' μ' hp') : Step w ok μ hp w' ok' μ' hp' :=
  ⟨h.hr, h.os, h.tape, h.output, h.size, h.frame, h.oksub, h.okfrom, h.ownfrom, fun i m hm => h.ext i m (lt_of_getElem? hm) hm⟩

theorem Far.trans {k : Nat} {w w' w'' : World} {ok ok' ok'' : Nat → Prop} {μ μ' μ'' : List MB} {hp hp' hp'' : Hp} (h : Far k w ok μ hp w' ok' μ' hp') (h' : Far k w' ok' μ' hp' w'' ok'' μ'' hp'') : Far k w ok μ hp w'' ok'' μ'' hp'' where
  hr := h'.hr
  os := h'.os.trans h.os
  tape := h'.tape.trans h.tape
  output := h'.output.trans h.output
  size := Nat.le_trans h.size h'.size
  frame b hb hn := by
    rw [h'.frame b (Nat.lt_of_lt_of_le hb h.size) (fun ho => by rcases h.ownfrom b ho with h1 | h1; omega; exact hn h1), h.frame b hb hn]
  oksub b hb := h'.oksub b (h.oksub b hb)
  okfrom b hb := by
    rcases h'.okfrom b hb with h1 | h1 | h1
    · exact h.okfrom b h1
    · exact .inr (.inl (Nat.le_trans h.size h1))
    · rcases h.ownfrom b h1 with h2 | h2
      · exact .inr (.inl h2)
      · exact .inr (.inr h2)
  ownfrom b hb := by
    rcases h'.ownfrom b hb with h1 | h1
    · exact .inl (Nat.le_trans h.size h1)
    · exact h.ownfrom b h1
  ext i m hi hm := h'.ext i m hi (h.ext i m hi hm)

/-- The relation of lists of values, as a list relation. -/
def GRel (w : World) (ok : Nat → Prop) (G : Nat → AV) : Prop := ∀ g ν, AVRel w ok ν (G g) (.pointer (some ⟨g, 0, none⟩))

/-- A call of function f with arguments of which the evaluator speaks. -/
def ACall (P : Program) (G : Nat → AV) (f : Nat) (hp : Hp) (args : List AV) (K : AV → Hp → Prop) : Prop :=
  ∀ (w : World) (ok : Nat → Prop) (μ : List MB) (xs : List Value), HR w ok μ hp → GRel w ok G → AVRels w ok μ args xs →
    Calls P f xs.toArray w fun e w' => ∃ x r hp' ok' μ', e = .returned x ∧ Step w ok μ hp w' ok' μ' hp' ∧ AVRel w' ok' μ' r x ∧ K r hp'

theorem ACall.mono {P : Program} {G : Nat → AV} {f : Nat} {hp : Hp} {args : List AV} {K K' : AV → Hp → Prop} (h : ACall P G f hp args K) (hk : ∀ r hp', K r hp' → K' r hp') : ACall P G f hp args K' :=
  fun w ok μ xs h1 h2 h3 => (h w ok μ xs h1 h2 h3).mono fun _ _ ⟨x, r, hp', ok', μ', a, b, c, d⟩ => ⟨x, r, hp', ok', μ', a, b, c, hk _ _ d⟩

def enters (P : Program) (g : Nat) : Bool := match P.funcs[g]? with | some fn => !(fn.name == "runtime.NumGoroutine") && !fn.body.isNone | none => false

/-- Whom an operation calls, with what. -/
def callOf (ev : Operand → AV) : Op → Option (Nat × List AV)
  | .call { callee := .value f, args := args, argTypes := _ } => match ev f with
    | .fn g first caps => some (g, first.map .one ++ args.toList.map ev ++ caps.map .one)
    | _ => none
  | _ => none

/-- A slice held against nil: whether '!=', and its rows. -/
def nilTest (P : Program) (hp : Hp) (ev : Operand → AV) : Op → Option (Bool × List (List V))
  | .binOp op t x y _ => match op, (tiOf P t).map TI.sh, ev y, rowsOf hp (ev x) with
    | .eql, some (.slice _), .one .nil, some rows => some (false, rows)
    | .neq, some (.slice _), .one .nil, some rows => some (true, rows)
    | _, _, _, _ => none
  | _ => none

def pickOf (ev : Operand → AV) : Op → Option (Bool × AV × AV)
  | .pick c a b => match ev c with | .one (.v (.lit (.bool q))) => some (q, ev a, ev b) | _ => none
  | _ => none

def bl (b : Bool) : AV := .one (.v (.lit (.bool b)))

/-- A mark by which simp leaves something alone. -/
structure Held.{u} {α : Sort u} (a : α) : Type where

/-- Two ways on. -/
def Cnd (b want : Bool) (s s' : S) (A B : S → Prop) (_ : Held A) (_ : Held B) : Prop := (b = want → A s) ∧ (b = !want → B s')

def CallK (P : Program) (G : Nat → AV) (f : Nat) (hp : Hp) (args : List AV) (K : AV → Hp → Prop) (_ : Held K) : Prop := ACall P G f hp args K

/-- A call whose arrays become plain data ahead of it. -/
def FrzK (P : Program) (o : AOp) (s : S) (K : S → Prop) (_ : Held K) : Prop :=
  match callOf s.eval o.op with
  | some (f, args) => enters P f = true ∧ CallK P s.gl f s.hp args (fun r hp' => K ({ s with hp := hp' }.put o.dst r)) ⟨⟩
  | none => False

/-- A call that is told of plain data, and tells scalars: with arrays as plain data, for the time of the call. -/
def CallB (P : Program) (G : Nat → AV) (f : Nat) (args : List AV) (K : AV → Prop) (_ : Held K) : Prop := ∃ r, idAVs args = true ∧ flatAV r = true ∧ K r ∧ ACall P G f [] args fun r' hp' => hp' = [] ∧ r' = r

def BorK (P : Program) (o : AOp) (s s' : S) (K : S → Prop) (_ : Held K) : Prop :=
  match callOf s'.eval o.op with
  | some (f, args) => enters P f = true ∧ CallB P s.gl f args (fun r => K (s.put o.dst r)) ⟨⟩
  | none => False

/-- A call: as it stands; with arrays as plain data for its time; or they become plain data ahead of it. -/
def CallZ (P : Program) (o : AOp) (s : S) (f : Nat) (args : List AV) (K : S → Prop) (_ : Held K) : Prop :=
  CallK P s.gl f s.hp args (fun r hp' => K ({ s with hp := hp' }.put o.dst r)) ⟨⟩ ∨ BorK P o s (frz (arsOf s.eval (opsOf o.op)) s) K ⟨⟩ ∨ FrzK P o (frz (arsOf s.eval (opsOf o.op)) s) K ⟨⟩

/-- What is left alone of memory, behind some have become plain data. -/
def aop1 (P : Program) (o : AOp) (s : S) (K : S → Prop) : Prop :=
  match pureOp P s.hp s.eval o.op with
  | some (p, v) => p ∧ K (s.put o.dst v)
  | none => match heapOp P s.hp s.eval o.op with
    | some (p, v, hp') => p ∧ K ({ s with hp := hp' }.put o.dst v)
    | none => False

def aopL (P : Program) (o : AOp) (s : S) (K : S → Prop) : Prop :=
  match pickOf s.eval o.op with
  | some (q, a, b) => Cnd q true (s.put o.dst a) (s.put o.dst b) K K ⟨⟩ ⟨⟩
  | none => match nilTest P s.hp s.eval o.op with
    | some (neg, rows) => ∀ q : Bool, (q = true → rows = []) → K (s.put o.dst (bl (q != neg)))
    | none => aop1 P o (frz (arsOf s.eval (opsOf o.op)) s) K

def aopC (P : Program) (o : AOp) (s : S) (K : S → Prop) : Prop :=
  match callOf s.eval o.op with
  | some (f, args) => enters P f = true ∧ CallZ P o s f args K ⟨⟩
  | none => aopL P o s K

def aopJ (P : Program) (o : AOp) (s : S) (K : S → Prop) : Prop :=
  match arjOpG P s.hp s.eval o.op with
  | some (p, v, hp') => p ∧ K ({ s with hp := hp' }.put o.dst v)
  | none => aopC P o s K

def aopH (P : Program) (o : AOp) (s : S) (K : S → Prop) : Prop :=
  match heapOp P s.hp s.eval o.op with
  | some (p, v, hp') => p ∧ K ({ s with hp := hp' }.put o.dst v)
  | none => aopJ P o s K

def aop (P : Program) (o : AOp) (s : S) (K : S → Prop) : Prop :=
  match pureOp P s.hp s.eval o.op with
  | some (p, v) => p ∧ K (s.put o.dst v)
  | none => aopH P o s K

def aops (P : Program) : List AOp → S → (S → Prop) → Prop
  | [], s, K => K s
  | o :: os, s, K =>
    match o.g with
    | none => aop P o s fun s' => aops P os s' K
    | some (t, want) => match getF s.fr t with
      | .one (.v (.lit (.bool b))) => Cnd b want (s.put (some t) (bl want)) ((s.put (some t) (bl (!want))).put o.dst (.tup [])) (fun s => aop P o s fun s' => aops P os s' K) (fun s => aops P os s K) ⟨⟩ ⟨⟩
      | .tup [] => aops P os (s.put o.dst (.tup [])) K
      | _ => False

/-- A call in a region whose order is open. -/
def DCall (P : Program) (G : Nat → AV) (f : Nat) (hp : Hp) (args : List AV) (K : AV → Hp → Prop) (_ : Held K) : Prop :=
  ∃ r hp', (ACall P G f hp args fun r' hp'' => r' = r ∧ hp'' = hp') ∧ K r hp'

/-- One operation of a region whose order is open: what it does is one thing. -/
def aopDH (P : Program) (o : AOp) (s : S) (K : S → Prop) : Prop :=
  match heapOp P s.hp s.eval o.op with
  | some (p, v, hp') => p ∧ K ({ s with hp := hp' }.put o.dst v)
  | none => match callOf s.eval o.op with
    | some (f, args) => enters P f = true ∧ DCall P s.gl f s.hp args (fun r hp' => K ({ s with hp := hp' }.put o.dst r)) ⟨⟩
    | none => match pickOf s.eval o.op with
      | some (q, a, b) => Cnd q true (s.put o.dst a) (s.put o.dst b) K K ⟨⟩ ⟨⟩
      | none => False

def aopD (P : Program) (o : AOp) (s : S) (K : S → Prop) : Prop :=
  match pureOp P s.hp s.eval o.op with
  | some (p, v) => p ∧ K (s.put o.dst v)
  | none => aopDH P o s K

def aopsD (P : Program) : List AOp → List S → S → (List S → S → Prop) → Prop
  | [], h, s, K => K h s
  | o :: os, h, s, K =>
    match o.g with
    | none => aopD P o s fun s' => aopsD P os (h ++ [s']) s' K
    | some (t, want) => match getF s.fr t with
      | .one (.v (.lit (.bool b))) => Cnd b want (s.put (some t) (bl want)) ((s.put (some t) (bl (!want))).put o.dst (.tup [])) (fun s => aopD P o s fun s' => aopsD P os (h ++ [s']) s' K) (fun s => aopsD P os (h ++ [s]) s K) ⟨⟩ ⟨⟩
      | .tup [] => aopsD P os (h ++ [s.put o.dst (.tup [])]) (s.put o.dst (.tup [])) K
      | _ => False

/-- Reads that are not ordered with effects read the same on either side. -/
def stables (P : Program) (al : List AOp) (st : List S) : List (Nat × Nat) → Prop
  | [] => True
  | (k, l) :: r => (match al[k]?, st[k]?, st[l]?, st[l + 1]? with
      | some a, some sk, some sl, some sm => pureOp P sm.hp sk.eval a.op = pureOp P sl.hp sk.eval a.op
      | _, _, _, _ => False) ∧ stables P al st r

def allAlts (P : Program) (s : S) (K : S → Prop) : List (List AOp × List (Nat × Nat)) → Prop
  | [] => True
  | (al, ps) :: r => aopsD P al [] s (fun h s' => stables P al (s :: h) ps ∧ K s') ∧ allAlts P s K r

def thenA (next : S → Prop) (Q : Exit → S → Prop) : Exit → S → Prop
  | .normal, s => next s
  | e, s => Q e s

def blockA (id : Nat) (Q : Exit → S → Prop) : Exit → S → Prop
  | .exit id', s => if id' = id then Q .normal s else Q (.exit id') s
  | e, s => Q e s

/-- The one state says no more than the other one. -/
def Weak (k : Nat) (s s' : S) : Prop :=
  s'.gl = s.gl ∧ ∀ (n : Nat) (w : World) (ok : Nat → Prop) (μ : List MB) (a : Act), St n w ok μ s a → ∃ ok' μ', St n w ok' μ' s' a ∧ Far k w ok μ s.hp w ok' μ' s'.hp

/-- Something holds of a state that says no more. -/
def Wk (k : Nat) (s : S) (K : S → Prop) (_ : Held K) : Prop := ∃ s', Weak k s s' ∧ K s'

def awp (P : Program) (k : Nat) : ACode → (Exit → S → Prop) → S → Prop
  | .skip, Q, s => Q .normal s
  | .reg ops, Q, s => aops P ops s (Q .normal)
  | .regD alts, Q, s => allAlts P s (fun s' => Wk k s' (Q .normal) ⟨⟩) alts
  | .seq a b, Q, s => awp P k a (thenA (awp P k b Q) Q) s
  | .cond c t e, Q, s => match s.eval c with
    | .one (.v (.lit (.bool b))) => Cnd b true s s (awp P k t Q) (awp P k e Q) ⟨⟩ ⟨⟩
    | _ => False
  | .block id c, Q, s => awp P k c (blockA id Q) s
  | .loop c, Q, s => ∃ (I : S → Prop) (m : S → Nat), (∃ s0, Weak k s s0 ∧ I s0) ∧ ∀ s, I s → awp P k c (thenA (fun s' => ∃ s'', Weak k s' s'' ∧ I s'' ∧ m s'' < m s) Q) s
  | .exit id, Q, s => Q (.exit id) s
  | .ret, Q, s => Q .ret s

section
variable {P : Program} {G : Nat → AV} {k n : Nat} {w w0 : World} {ok ok0 : Nat → Prop} {μ μ0 : List MB} {hp0 : Hp} {s : S} {a : Act}

/-- Somewhere behind the beginning, in a state of the kind. -/
def Holds (k n : Nat) (w0 : World) (ok0 : Nat → Prop) (μ0 : List MB) (hp0 : Hp) (G : Nat → AV) (K : S → Prop) (a : Act) (w : World) : Prop :=
  ∃ ok μ s, St n w ok μ s a ∧ Far k w0 ok0 μ0 hp0 w ok μ s.hp ∧ s.gl = G ∧ K s

theorem Act.put_size (a : Act) (d : Option Nat) (x : Value) : (a.put d x).tmps.size = a.tmps.size := by
  cases d <;> simp [Act.put]

theorem St.put (h : St n w ok μ s a) {v : AV} {x : Value} (hv : AVRel w ok μ v x) {d : Option Nat} (hd : ∀ t, d = some t → t < n) : St n w ok μ (s.put d v) (a.put d x) := by
  cases d with
  | none => exact h
  | some t =>
    refine ⟨h.hr, by rw [Act.put_size]; exact h.size, h.defers, fun u => ?_, h.gl⟩
    have hlt := hd t rfl
    simp only [S.put, Act.put, getF]
    by_cases hu : t = u
    · subst hu
      rw [if_pos rfl]
      simp [Array.getD_eq_getD_getElem?, h.size, hlt, hv]
    · rw [if_neg hu]
      simp only [Array.getD_eq_getD_getElem?, Array.getElem?_setIfInBounds_ne hu]
      have := h.fr u
      rwa [Array.getD_eq_getD_getElem?] at this

theorem St.reput (h : St n w ok μ s a) {t : Nat} {v : AV} (hv : getF s.fr t = v) : St n w ok μ (s.put (some t) v) a := by
  refine ⟨h.hr, h.size, h.defers, fun u => ?_, h.gl⟩
  simp only [S.put, getF]
  by_cases hu : t = u
  · subst hu; rw [if_pos rfl, ← hv]; exact h.fr t
  · rw [if_neg hu]; exact h.fr u

theorem St.step (h : St n w ok μ s a) {w' : World} {ok' : Nat → Prop} {μ' : List MB} {hp' : Hp} (hs : Step w ok μ s.hp w' ok' μ' hp') : St n w' ok' μ' { s with hp := hp' } a :=
  ⟨hs.hr, h.size, h.defers, fun t => hs.av h.hr (h.fr t), fun g ν => (h.gl g ν).mono (hs.keep h.hr) hs.oksub⟩

theorem Holds.mono {K K' : S → Prop} (h : Holds k n w0 ok0 μ0 hp0 G K a w) (hk : ∀ s, K s → K' s) : Holds k n w0 ok0 μ0 hp0 G K' a w :=
  let ⟨ok, μ, s, h1, h2, h3, h4⟩ := h; ⟨ok, μ, s, h1, h2, h3, hk s h4⟩

theorem avrels_append {l l' : List AV} {xs xs' : List Value} (h : AVRels w ok μ l xs) (h' : AVRels w ok μ l' xs') : AVRels w ok μ (l ++ l') (xs ++ xs') := by
  induction l generalizing xs with
  | nil => cases h; exact h'
  | cons v l ih => cases h with | cons h t => exact .cons h (ih t)

theorem avrels_one {cs : List C} {xs : List Value} (h : All2 (CRel w ok μ) cs xs) : AVRels w ok μ (cs.map .one) xs := by
  induction h with
  | nil => exact .nil
  | cons h _ ih => exact .cons (.one h) ih

theorem run_equalIn_nil {t e : TypeId} (hu : P.underlying t = some (.slice e)) (d : Nat) (z : Option Addr) (l c : Nat) : (Op.equalIn (d + 1) t (.slice z l c) (.slice none 0 0)).run P w = .ok z.isNone w := by
  cases z <;> simp [Op.equalIn, run_underlying hu]

theorem run_equal_nil {t e : TypeId} (hu : P.underlying t = some (.slice e)) (z : Option Addr) (l c : Nat) : (Op.equal t (.slice z l c) (.slice none 0 0)).run P w = .ok z.isNone w :=
  run_equalIn_nil hu 9999 z l c

theorem call_run {o : Oper} (hst : St n w ok μ s a) {f : Nat} {args : List AV} (hc : callOf s.eval o.op = some (f, args)) (hent : enters P f = true) :
    ∃ xs : List Value, AVRels w ok μ args xs ∧ (execOp a.eval o).run P w = .ok (.enter f xs.toArray) w := by
  unfold callOf at hc
  split at hc
  · rename_i fo as ts heq
    split at hc
    · rename_i g first caps hfe
      cases hc
      have hfr := hst.eval fo
      rw [hfe] at hfr
      cases hfv : a.eval fo with
      | func fn fs cs =>
        rw [hfv] at hfr
        cases hfr with | fn hfirst hcaps =>
        have hargs : AVRels w ok μ (first.map .one ++ as.toList.map s.eval ++ caps.map .one) (fs.toList ++ (as.toList.map a.eval) ++ cs.toList) :=
          avrels_append (avrels_append (avrels_one hfirst) (avrels_map hst.eval as.toList)) (avrels_one hcaps)
        refine ⟨_, hargs, ?_⟩
        unfold enters at hent
        split at hent
        · rename_i fn hfn
          simp only [Bool.and_eq_true, Bool.not_eq_true'] at hent
          simp only [execOp, heq, resolve, hfv, Deferred.ofValue, Sem.run_bind, Sem.run_pure, Result.andThen_ok, invoke, callFunc, run_program, hfn, hent.1, hent.2, Bool.false_eq_true, if_false]
          congr 2
          apply Array.ext'
          simp
        · cases hent
      | _ => rw [hfv] at hfr; cases hfr
    · cases hc
  · cases hc

/-- One operation. -/
theorem aop_sound {o : Oper} {ao : AOp} (hao : ao.dst = o.dst ∧ ao.op = o.op) (hd : ∀ t, o.dst = some t → t < n) (hst : St n w ok μ s a) (hfar : Far k w0 ok0 μ0 hp0 w ok μ s.hp) (hg : s.gl = G)
    {K : S → Prop} (h : aop P ao s K) {K' : Act → World → Prop} (hK : ∀ a w, Holds k n w0 ok0 μ0 hp0 G K a w → K' a w) {Q : Exit → Act → World → Prop} : o.wp P a w K' Q := by
  obtain ⟨h1, h2⟩ := hao
  unfold aop aopH aopJ aopC aopL at h
  rw [h1, h2] at h
  unfold Oper.wp
  split at h
  · rename_i p v hp
    obtain ⟨hpp, hk⟩ := h
    obtain ⟨x, hx, hr⟩ := pureOp_sound (w := w) hst.hr hst.eval hp hpp
    rw [hx]
    exact hK _ _ ⟨ok, μ, _, hst.put hr hd, by cases o.dst <;> exact hfar, by cases o.dst <;> exact hg, hk⟩
  · split at h
    · rename_i p v hp' hp
      obtain ⟨hpp, hk⟩ := h
      obtain ⟨nx, w', μ', hx, hs, hr⟩ := heapOp_sound (w := w) hst.hr hst.eval hp hpp
      rw [hx]
      have hfar' := hfar.trans (hs.far (k := k))
      rcases hr with ⟨x, rfl, hr⟩ | ⟨rfl, rfl⟩
      · exact hK _ _ ⟨ok, μ', _, (hst.step hs).put hr hd, by cases o.dst <;> exact hfar', by cases o.dst <;> exact hg, hk⟩
      · exact hK _ _ ⟨ok, μ', _, (hst.step hs).put .any hd, by cases o.dst <;> exact hfar', by cases o.dst <;> exact hg, hk⟩
    · split at h
      · rename_i p v hp' hp
        obtain ⟨hpp, hk⟩ := h
        obtain ⟨nx, w', μ', hx, hs, hr⟩ := arjOpG_sound (w := w) hst.hr hst.eval hp hpp
        rw [hx]
        have hfar' := hfar.trans (hs.far (k := k))
        rcases hr with ⟨x, rfl, hr⟩ | ⟨rfl, rfl⟩
        · exact hK _ _ ⟨ok, μ', _, (hst.step hs).put hr hd, by cases o.dst <;> exact hfar', by cases o.dst <;> exact hg, hk⟩
        · exact hK _ _ ⟨ok, μ', _, (hst.step hs).put .any hd, by cases o.dst <;> exact hfar', by cases o.dst <;> exact hg, hk⟩
      split at h
      · rename_i f args hc
        obtain ⟨hent, hcall⟩ := h
        have plain : ∀ {ok : Nat → Prop} {s : S}, St n w ok μ s a → Far k w0 ok0 μ0 hp0 w ok μ s.hp → s.gl = G → ∀ {f : Nat} {args : List AV}, callOf s.eval o.op = some (f, args) → enters P f = true →
            ACall P s.gl f s.hp args (fun r hp' => K ({ s with hp := hp' }.put o.dst r)) → Oper.upon P o a K' Q ((execOp a.eval o).run P w) := by
          intro ok s hst hfar hg f args hc hent hcall
          obtain ⟨xs, hargs, hrun⟩ := call_run hst hc hent
          have hC := hcall w ok μ _ hst.hr hst.gl hargs
          rw [hrun]
          simp only [Oper.upon]
          refine hC.mono ?_
          rintro e w' ⟨x, r, hp', ok', μ', rfl, hs, hr, hk⟩
          exact hK _ _ ⟨ok', μ', _, (hst.step hs).put hr hd, by have := hfar.trans (hs.far (k := k)); cases o.dst <;> exact this, by cases o.dst <;> exact hg, hk⟩
        obtain ⟨okz, hstz, hsz⟩ := frz_st (l := arsOf s.eval (opsOf o.op)) hst
        unfold CallZ at hcall
        rw [h1, h2] at hcall
        rcases hcall with hcall | hcall | hcall
        · exact plain hst hfar hg hc hent hcall
        · unfold BorK at hcall
          split at hcall
          · rename_i f' args' hc'
            obtain ⟨hent', r, hid, hflat, hk, hcall'⟩ := hcall
            rw [h2] at hc'
            obtain ⟨xs, hargs, hrun⟩ := call_run hstz hc' hent'
            have hC := hcall' w okz [] xs (hr_nil fun b hb => (hstz.hr.keep hb).1) (fun g ν => (hst.gl g ν).mono (fun _ _ => rfl) hsz.oksub) (idAVs_rel hid hargs)
            rw [hrun]
            simp only [Oper.upon]
            refine hC.mono ?_
            rintro e w' ⟨x, r', hp', ok', μ', rfl, hs, hr, rfl, rfl⟩
            have hst' := borrow_step hst.hr hs
            exact hK _ _ ⟨ok, μ, _, ((hst.step hst').put (flatAV_rel hflat hr) hd), by have := hfar.trans (hst'.far (k := k)); cases o.dst <;> exact this, by cases o.dst <;> exact hg, h1 ▸ hk⟩
          · exact hcall.elim
        · unfold FrzK at hcall
          rw [h1, h2] at hcall
          split at hcall
          · rename_i f' args' hc'
            obtain ⟨hent', hcall'⟩ := hcall
            exact plain hstz (hfar.trans (hsz.far (k := k))) (frz_gl.trans hg) hc' hent' hcall'
          · exact hcall.elim
      · split at h
        · rename_i q va vb hpk
          unfold pickOf at hpk
          split at hpk
          · rename_i c x y heq
            split at hpk
            · rename_i q' hcq
              cases hpk
              have hc := hst.eval c
              rw [hcq] at hc
              have hc' := lit_rel hc
              have hrun : (execOp a.eval o).run P w = .ok (.value (if q then a.eval x else a.eval y)) w := by
                simp [execOp, heq, hc', asBool]
              rw [hrun]
              cases q with
              | true => exact hK _ _ ⟨ok, μ, _, hst.put (hst.eval x) hd, by cases o.dst <;> exact hfar, by cases o.dst <;> exact hg, h.1 rfl⟩
              | false => exact hK _ _ ⟨ok, μ, _, hst.put (hst.eval y) hd, by cases o.dst <;> exact hfar, by cases o.dst <;> exact hg, h.2 rfl⟩
            · cases hpk
          · cases hpk
        · split at h
          · rename_i neg rows hnt
            unfold nilTest at hnt
            split at hnt
            · rename_i op t x y yt heq
              have hy := hst.eval y
              have key : ∀ e, (tiOf P t).map TI.sh = some (.slice e) → s.eval y = .one .nil → rowsOf s.hp (s.eval x) = some rows → ∃ q : Bool, (q = true → rows = []) ∧ (Op.equal t (a.eval x) (a.eval y)).run P w = .ok q w ∧ (∀ b, (eqGuard b t x y (a.eval x) (a.eval y)).run P w = .ok () w) ∧ ∃ l c z, a.eval x = .slice z l c ∧ a.eval y = .slice none 0 0 := by
                intro e hs hye hrows
                rw [hye] at hy
                obtain ⟨i, hi, hi'⟩ := Option.map_eq_some_iff.1 hs
                have hu := (tiOf_spec hi).slice hi'
                have hyv : a.eval y = .slice none 0 0 := by
                  cases hyv : a.eval y with
                  | slice z l c => rw [hyv] at hy; cases hy with | one hc => cases hc; rfl
                  | _ => rw [hyv] at hy; cases hy with | one hc => cases hc
                have hgd : ∀ z l c, a.eval x = .slice z l c → ∀ b, (eqGuard b t x y (a.eval x) (a.eval y)).run P w = .ok () w := by
                  intro z l c hxv b
                  refine eqGuard_lit _ _ _ _ ?_ ?_
                  · rw [hxv]; intro _ _ h; cases h
                  · rw [hxv]; intro h; cases h
                rcases rowsOf_rel hst.hr hrows (hst.eval x) with ⟨hxv, hn⟩ | ⟨b, off, cap, hxv, _⟩
                · exact ⟨true, fun _ => hn, by rw [hxv, hyv]; exact run_equal_nil hu _ _ _, hgd _ _ _ hxv, _, _, _, hxv, hyv⟩
                · exact ⟨false, (fun h => by cases h), by rw [hxv, hyv]; exact run_equal_nil hu _ _ _, hgd _ _ _ hxv, _, _, _, hxv, hyv⟩
              split at hnt
              · rename_i hs hye hrows
                cases hnt
                obtain ⟨q, hq, hrun, hgd, l, c, z, hxv, hyv⟩ := key _ hs hye hrows
                have hr : (execOp a.eval o).run P w = .ok (.value (.bool q)) w := by
                  have hg' := hgd .eql
                  rw [hxv, hyv] at hrun hg'
                  simp only [execOp, heq, Sem.run_bind, hxv, hyv, hg', Result.andThen_ok, binOp, hrun, Sem.run_pure]
                rw [hr]
                have := h q hq
                exact hK _ _ ⟨ok, μ, _, hst.put (v := bl q) (avlit rfl) hd, by cases o.dst <;> exact hfar, by cases o.dst <;> exact hg, by simpa using this⟩
              · rename_i hs hye hrows
                cases hnt
                obtain ⟨q, hq, hrun, hgd, l, c, z, hxv, hyv⟩ := key _ hs hye hrows
                have hr : (execOp a.eval o).run P w = .ok (.value (.bool (!q))) w := by
                  have hg' := hgd .neq
                  rw [hxv, hyv] at hrun hg'
                  simp only [execOp, heq, Sem.run_bind, hxv, hyv, hg', Result.andThen_ok, binOp, hrun, Sem.run_pure]
                rw [hr]
                have := h q hq
                exact hK _ _ ⟨ok, μ, _, hst.put (v := bl (!q)) (avlit rfl) hd, by cases o.dst <;> exact hfar, by cases o.dst <;> exact hg, by simpa using this⟩
              · cases hnt
            · cases hnt
          · obtain ⟨okz, hstz, hsz⟩ := frz_st (l := arsOf s.eval (opsOf o.op)) hst
            have hfar := hfar.trans (hsz.far (k := k))
            have hg : (frz (arsOf s.eval (opsOf o.op)) s).gl = G := frz_gl.trans hg
            unfold aop1 at h
            rw [h1, h2] at h
            split at h
            · rename_i p v hp
              obtain ⟨hpp, hk⟩ := h
              obtain ⟨x, hx, hr⟩ := pureOp_sound (w := w) hstz.hr hstz.eval hp hpp
              rw [hx]
              exact hK _ _ ⟨okz, μ, _, hstz.put hr hd, by cases o.dst <;> exact hfar, by cases o.dst <;> exact hg, hk⟩
            · split at h
              · rename_i p v hp' hp
                obtain ⟨hpp, hk⟩ := h
                obtain ⟨nx, w', μ', hx, hs, hr⟩ := heapOp_sound (w := w) hstz.hr hstz.eval hp hpp
                rw [hx]
                have hfar' := hfar.trans (hs.far (k := k))
                rcases hr with ⟨x, rfl, hr⟩ | ⟨rfl, rfl⟩
                · exact hK _ _ ⟨okz, μ', _, (hstz.step hs).put hr hd, by cases o.dst <;> exact hfar', by cases o.dst <;> exact hg, hk⟩
                · exact hK _ _ ⟨okz, μ', _, (hstz.step hs).put .any hd, by cases o.dst <;> exact hfar', by cases o.dst <;> exact hg, hk⟩
              · exact h.elim

end
end Go.Proofs.AE
