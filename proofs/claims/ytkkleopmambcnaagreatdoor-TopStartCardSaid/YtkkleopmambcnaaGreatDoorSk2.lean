/- Texts joined. -/
import Derived.Test.YtkkleopmambcnaaGreatDoorSk1
import Derived.Orders
import Derived.MapKept
import Derived.KernelRfl
set_option linter.unusedVariables false
set_option linter.unusedSimpArgs false
namespace Go.Proofs.AE
open Go Go.RowKit
structure AOp where
  dst : Option Nat
  op : Op
  g : Option (Nat × Bool)
def dstOk (n : Nat) : Option Nat → Bool
  | none => true
  | some t => decide (t < n)
def compOp (n : Nat) (ops : Array Oper) (o : Oper) : Option AOp :=
  if dstOk n o.dst = true then
    match o.guard with
    | none => some ⟨o.dst, o.op, none⟩
    | some (j, b) => match (ops[j]?).bind (·.dst) with
      | some t => if t < n then some ⟨o.dst, o.op, some (t, b)⟩ else none
      | none => none
  else none
def compOps (n : Nat) (ops : Array Oper) : List Oper → Option (List AOp)
  | [] => some []
  | o :: os => match compOp n ops o, compOps n ops os with
    | some a, some l => some (a :: l)
    | _, _ => none
def edgesOf (o : Oper) : List Nat := (o.after.toList.filter fun e => Region.binds .any e).map (·.on)
def ancStep (acc : List Nat) (o : Oper) : Nat := (edgesOf o).foldl (fun s j => s ||| 2 ^ j ||| acc.getD j 0) 0
def ancs : List Oper → List Nat → List Nat
  | [], acc => acc
  | o :: os, acc => ancs os (acc ++ [ancStep acc o])
def ancT (ops : Array Oper) : List Nat := ancs ops.toList []
def ancB (A : List Nat) (i j : Nat) : Bool := (A.getD i 0).testBit j
def acyc (ops : Array Oper) : Bool := ops.toList.zipIdx.all fun (o, i) => (edgesOf o).all (· < i)
def isEff : Op → Bool
  | .move _ | .assign _ | .pick .. | .load .. | .binOp .. | .unOp .. | .convert .. | .slice .. | .fieldAddr .. | .field .. | .indexAddr .. | .index .. | .extract .. | .nilCheck _ | .makeFunc .. | .build .. | .lookup .. => false
  | .call { callee := .builtin .len, .. } | .call { callee := .builtin .min, .. } | .call { callee := .builtin .max, .. } => false
  | _ => true
def isReader : Op → Bool
  | .load .. | .convert .. | .indexAddr .. | .call _ | .lookup .. => true
  | _ => false
def namesOf (o : AOp) : List Nat := o.dst.toList ++ (o.op.operands.toList.filterMap fun | .tmp t => some t | _ => none) ++ (match o.g with | some (t, _) => [t] | none => [])
def exts (A : List Nat) : Nat → List Nat → List (List Nat)
  | 0, _ => [[]]
  | f + 1, rest => rest.flatMap fun c => if rest.all (fun r => r == c || !ancB A c r) then (exts A f (rest.erase c)).map (c :: ·) else []
def canon (ops : Array Oper) (eff : Nat → Bool) : Nat → List Nat → List Nat → List Nat → List Nat
  | 0, _, _, _ => []
  | f + 1, done, left, es =>
    match left.find? (fun i => ((ops[i]?).map fun o => (edgesOf o).all done.contains).getD false && (!eff i || es.head? == some i)) with
    | some i => i :: canon ops eff f (i :: done) (left.erase i) (if eff i then es.tail else es)
    | none => []
def effI (ops : Array Oper) (i : Nat) : Bool := match ops[i]? with | some o => isEff o.op | none => false
def compIdx (n : Nat) (ops : Array Oper) : List Nat → Option (List AOp)
  | [] => some []
  | i :: r => match ops[i]? with
    | some o => match compOp n ops o, compIdx n ops r with
      | some a, some l => some (a :: l)
      | _, _ => none
    | none => none
def namesOk (A : List Nat) (ord : List Nat) (al : List AOp) : Bool :=
  (ord.zip al).zipIdx.all fun ((i, a), k) => (ord.zip al).zipIdx.all fun ((j, b), l) =>
    k == l || (match b.dst with
      | some t => !(namesOf a).contains t || ((!decide (l < k) || ancB A i j) && (!decide (k < l) || ancB A j i))
      | none => true)
def pairsOf (A : List Nat) (ord : List Nat) (al : List AOp) : List (Nat × Nat) :=
  (ord.zip al).zipIdx.flatMap fun ((i, a), k) => if isReader a.op && !isEff a.op then
    (ord.zip al).zipIdx.filterMap fun ((j, b), l) => if isEff b.op && (!decide (k < l) || !ancB A j i) && (!decide (l < k) || !ancB A i j) then some (k, l) else none
  else []
def altOf (n : Nat) (ops : Array Oper) (A : List Nat) (e : List Nat) : Option (List AOp × List (Nat × Nat)) :=
  let ord := canon ops (effI ops) ops.size [] (List.range ops.size) e
  if decide ord.Nodup && (List.range ops.size).all ord.contains && (ord.filter (effI ops) == e) then
    match compIdx n ops ord with
    | some al => if namesOk A ord al then some (al, pairsOf A ord al) else none
    | none => none
  else none
def altsOf (n : Nat) (ops : Array Oper) (A : List Nat) : List (List Nat) → Option (List (List AOp × List (Nat × Nat)))
  | [] => some []
  | e :: r => match altOf n ops A e, altsOf n ops A r with | some a, some l => some (a :: l) | _, _ => none
def compDraw (n : Nat) (ops : Array Oper) : Option (List (List AOp × List (Nat × Nat))) :=
  if acyc ops then
    let A := ancT ops
    let E := (List.range ops.size).filter (effI ops)
    altsOf n ops A (exts A E.length E)
  else none
inductive ACode where
  | skip
  | reg (ops : List AOp)
  | regD (alts : List (List AOp × List (Nat × Nat)))
  | seq (a b : ACode)
  | cond (c : Operand) (t e : ACode)
  | block (id : Nat) (c : ACode)
  | loop (c : ACode)
  | exit (id : Nat)
  | ret
def comp (n : Nat) : Code → Option ACode
  | .skip => some .skip
  | .region _ ops false => (compOps n ops ops.toList).map .reg
  | .region _ ops true => (compDraw n ops).map .regD
  | .seq a b => match comp n a, comp n b with | some x, some y => some (.seq x y) | _, _ => none
  | .cond c t e => match comp n t, comp n e with | some x, some y => some (.cond c x y) | _, _ => none
  | .block id c => (comp n c).map (.block id)
  | .loop c => (comp n c).map .loop
  | .exit id => some (.exit id)
  | .ret => some .ret
  | _ => none
end Go.Proofs.AE
set_option linter.unusedVariables false
set_option linter.unusedSimpArgs false
namespace Go.Proofs.AE
open Go Go.RowKit
def frC (i : Nat) (rows : List (List V)) : C → C
  | .ar j => if j = i then .v (.sl rows) else .ar j
  | .eptr j r k off => if j = i then .any else .eptr j r k off
  | c => c
mutual
def frAV (i : Nat) (rows : List (List V)) : AV → AV
  | .one c => .one (frC i rows c)
  | .agg cs => .agg (cs.map (frC i rows))
  | .tup l => .tup (frAVs i rows l)
  | .fn f a b => .fn f (a.map (frC i rows)) (b.map (frC i rows))
  | .any => .any
def frAVs (i : Nat) (rows : List (List V)) : List AV → List AV
  | [] => []
  | v :: l => frAV i rows v :: frAVs i rows l
end
def frB (i : Nat) (rows : List (List V)) : Option Blk → Option Blk
  | some (.box t cs) => some (.box t (cs.map (frC i rows)))
  | b => b
def frF (i : Nat) (rows : List (List V)) : List (Nat × AV) → List (Nat × AV)
  | [] => []
  | (t, v) :: r => (t, frAV i rows v) :: frF i rows r
def frz1 (i : Nat) (s : S) : S :=
  match s.hp[i]? with
  | some (some (.arr _ _ rows)) => ⟨frF i rows s.fr, s.gl, (s.hp.set i none).map (frB i rows)⟩
  | _ => s
def frz : List Nat → S → S
  | [], s => s
  | i :: l, s => frz l (frz1 i s)
def arsCs : List C → List Nat
  | [] => []
  | .ar i :: r => i :: arsCs r
  | _ :: r => arsCs r
def arsAV : AV → List Nat
  | .one (.ar i) => [i]
  | .agg cs => arsCs cs
  | _ => []
def arsOf (ev : Operand → AV) : List Operand → List Nat
  | [] => []
  | x :: r => arsAV (ev x) ++ arsOf ev r
def opsOf : Op → List Operand
  | .store _ _ x => [x]
  | .slice _ x _ _ _ => [x]
  | .build _ parts => parts.toList.map (·.2)
  | .buildSlice _ _ parts => parts.toList.map (·.2)
  | .call { callee := .builtin _, args := args, argTypes := _ } => args.toList.drop 1
  | .call { callee := .value _, args := args, argTypes := _ } => args.toList
  | .convert _ _ x => [x]
  | op => []
section
variable {P : Program} {n : Nat} {w : World} {ok ok' : Nat → Prop} {μ : List MB} {s : S} {a : Act} {i : Nat} {rows : List (List V)}
theorem vrel_of_arr {ok0 : Nat → Prop} {e kk : Nat} {rows : List (List V)} {x : Value} (h : BRel w ok μ (.arr e kk rows) (.arr x)) (ho : ∀ b, ok b → ok0 b) (hx : ∀ b, x.ownBlock = some b → ok0 b) : VRel w ok0 (.sl rows) x := by
  rcases arr_rows h with ⟨rfl, rfl⟩ | ⟨b, off, cap, rfl, hle, hmx, hc⟩
  · exact .nil
  · refine .sl rows b off cap (fun i j => match rows[i]? with | some row => (w.cell? ⟨b, off + (i * row.length + j), none⟩).getD undef | none => undef) (fun _ => hx b rfl) hle hmx ?_ ?_
    · intro i row j v hi hj
      obtain ⟨y, hy, hr⟩ := hc i row j v hi hj
      simp [hi, hy]
    · intro i row j v hi hj
      obtain ⟨y, hy, hr⟩ := hc i row j v hi hj
      simp only [hi, hy, Option.getD_some]
      exact hr.mono (fun _ _ => rfl) ho
theorem frC_rel (ho : ∀ b, ok b → ok' b) (hx : ∀ x, μ[i]? = some (.arr x) → VRel w ok' (.sl rows) x) {c : C} {x : Value} (h : CRel w ok μ c x) : CRel w ok' μ (frC i rows c) x := by
  have hm : CRel w ok' μ c x := h.mono (fun _ _ => rfl) ho
  unfold frC
  split
  · rename_i j
    split
    · rename_i e; subst e
      cases h with | ar hμ h1 => exact .v (hx _ hμ)
    · exact hm
  · split
    · exact .any h.oneCell
    · exact hm
  · exact hm
theorem frCs_rel (ho : ∀ b, ok b → ok' b) (hx : ∀ x, μ[i]? = some (.arr x) → VRel w ok' (.sl rows) x) {cs : List C} {xs : List Value} (h : All2 (CRel w ok μ) cs xs) : All2 (CRel w ok' μ) (cs.map (frC i rows)) xs := by
  induction h with
  | nil => exact .nil
  | cons h _ ih => exact .cons (frC_rel ho hx h) ih
mutual
theorem frAV_rel (ho : ∀ b, ok b → ok' b) (hx : ∀ x, μ[i]? = some (.arr x) → VRel w ok' (.sl rows) x) : ∀ {v : AV} {x : Value}, AVRel w ok μ v x → AVRel w ok' μ (frAV i rows v) x
  | .one _, _, .one h => .one (frC_rel ho hx h)
  | .agg _, _, .agg h => .agg (frCs_rel ho hx h)
  | .tup _, _, .tup h => .tup (frAVs_rel ho hx h)
  | .fn _ _ _, _, .fn h h' => .fn (frCs_rel ho hx h) (frCs_rel ho hx h')
  | .any, _, _ => .any
theorem frAVs_rel (ho : ∀ b, ok b → ok' b) (hx : ∀ x, μ[i]? = some (.arr x) → VRel w ok' (.sl rows) x) : ∀ {l : List AV} {xs : List Value}, AVRels w ok μ l xs → AVRels w ok' μ (frAVs i rows l) xs
  | [], _, .nil => .nil
  | _ :: _, _, .cons h t => .cons (frAV_rel ho hx h) (frAVs_rel ho hx t)
end
theorem frF_get : ∀ (fr : List (Nat × AV)) (t : Nat), getF (frF i rows fr) t = frAV i rows (getF fr t)
  | [], t => by simp [frF, getF, frAV]
  | (u, v) :: r, t => by
    simp only [frF, getF]
    split
    · rfl
    · exact frF_get r t
theorem frz1_st (hst : St n w ok μ s a) : ∃ ok', St n w ok' μ (frz1 i s) a ∧ Step w ok μ s.hp w ok' μ (frz1 i s).hp := by
  unfold frz1
  split
  · rename_i e k rows hi
    obtain ⟨m, hm, hb⟩ := hst.hr.rel _ _ hi
    cases m with
    | box b => exact hb.elim
    | arr y =>
    have s1 := step_freeze hst.hr ⟨_, hi⟩ hm
    have hx : ∀ x, μ[i]? = some (.arr x) → VRel w (fun b => ok b ∨ (MB.arr y).own = some b) (.sl rows) x := by
      intro x hx
      rw [hm] at hx; cases hx
      exact vrel_of_arr hb (fun _ h => .inl h) fun b hb' => .inr hb'
    have ho : ∀ b, ok b → (ok b ∨ (MB.arr y).own = some b) := fun _ h => .inl h
    have hr' : HR w (fun b => ok b ∨ (MB.arr y).own = some b) μ ((s.hp.set i none).map (frB i rows)) := by
      have h0 := s1.hr
      have inv : ∀ (j : Nat) b, ((s.hp.set i none).map (frB i rows))[j]? = some (some b) → ∃ b0, (s.hp.set i none)[j]? = some (some b0) ∧ frB i rows (some b0) = some b := by
        intro j b h
        rw [List.getElem?_map] at h
        cases h1 : (s.hp.set i none)[j]? with
        | none => rw [h1] at h; simp at h
        | some o =>
          rw [h1] at h
          cases o with
          | none => simp [frB] at h
          | some b0 => exact ⟨b0, rfl, by simpa using h⟩
      refine ⟨by simp [hst.hr.len], ?_, ?_, ?_⟩
      · intro j b hj
        obtain ⟨b0, h1, h2⟩ := inv j b hj
        have h1' : s.hp[j]? = some (some b0) := by
          rcases getElem?_set_cases h1 with ⟨_, h⟩ | ⟨_, h⟩
          · cases h
          · exact h
        obtain ⟨q, h3, h4⟩ := h0.rel j b0 h1
        obtain ⟨q', h3', h4'⟩ := hst.hr.rel j b0 h1'
        rw [h3] at h3'; cases h3'
        refine ⟨q, h3, ?_⟩
        cases b0 with
        | arr e' k' rows' => simp only [frB, Option.some.injEq] at h2; subst h2; exact h4
        | arj e' k' n' rows' => simp only [frB, Option.some.injEq] at h2; subst h2; exact h4
        | mp t' es' => simp only [frB, Option.some.injEq] at h2; subst h2; exact h4
        | box t cs =>
          simp only [frB, Option.some.injEq] at h2; subst h2
          cases q with
          | arr => exact h4.elim
          | box b =>
            obtain ⟨xs, g1, g2⟩ := h4'
            exact ⟨xs, g1, frCs_rel ho hx g2⟩
      · intro j1 j2 b c p q k' hij hb1 hc1 hp hq hk
        obtain ⟨b0, h1, _⟩ := inv j1 b hb1
        obtain ⟨c0, h2, _⟩ := inv j2 c hc1
        exact h0.inj j1 j2 b0 c0 p q k' hij h1 h2 hp hq hk
      · intro k' hk'
        refine ⟨(h0.okn k' hk').1, fun j b q hj hq => ?_⟩
        obtain ⟨b0, h1, _⟩ := inv j b hj
        exact (h0.okn k' hk').2 j b0 q h1 hq
    refine ⟨_, ⟨hr', hst.size, hst.defers, fun t => ?_, fun g ν => (hst.gl g ν).mono (fun _ _ => rfl) ho⟩, ⟨hr', s1.os, s1.tape, s1.output, s1.size, s1.frame, s1.oksub, s1.okfrom, ?_, s1.ext⟩⟩
    · show AVRel w _ μ (getF (frF i rows s.fr) t) _
      rw [frF_get]; exact frAV_rel ho hx (hst.fr t)
    · rintro b ⟨j, blk, m', h1, h2, h3⟩
      rw [List.getElem?_map] at h1
      cases h4 : (s.hp.set i none)[j]? with
      | none => rw [h4] at h1; simp at h1
      | some o =>
        cases o with
        | none => rw [h4] at h1; simp [frB] at h1
        | some b0 => exact s1.ownfrom b ⟨j, b0, m', h4, h2, h3⟩
  · exact ⟨ok, hst, Step.refl hst.hr⟩
theorem frz_st : ∀ {l : List Nat} {s : S} {ok : Nat → Prop}, St n w ok μ s a → ∃ ok', St n w ok' μ (frz l s) a ∧ Step w ok μ s.hp w ok' μ (frz l s).hp
  | [], s, ok, h => ⟨ok, h, Step.refl h.hr⟩
  | i :: l, s, ok, h => by
    obtain ⟨ok1, h1, s1⟩ := frz1_st (i := i) h
    obtain ⟨ok2, h2, s2⟩ := frz_st (l := l) h1
    exact ⟨ok2, h2, s1.trans s2⟩
theorem frz1_gl : (frz1 i s).gl = s.gl := by unfold frz1; split <;> rfl
theorem frz_gl : ∀ {l : List Nat} {s : S}, (frz l s).gl = s.gl
  | [], _ => rfl
  | i :: l, s => by rw [frz, frz_gl, frz1_gl]
end
def flatC : C → Bool
  | .v (.lit _) => true
  | _ => false
mutual
def flatAV : AV → Bool
  | .one c => flatC c
  | .agg cs => cs.all flatC
  | .tup l => flatAVs l
  | _ => false
def flatAVs : List AV → Bool
  | [] => true
  | v :: l => flatAV v && flatAVs l
end
def idC : C → Bool
  | .v _ | .vptr _ | .full _ | .nil => true
  | _ => false
mutual
def idAV : AV → Bool
  | .one c => idC c
  | .agg cs => cs.all idC
  | .fn _ a b => a.all idC && b.all idC
  | .tup l => idAVs l
  | .any => true
def idAVs : List AV → Bool
  | [] => true
  | v :: l => idAV v && idAVs l
end
section
variable {P : Program} {n : Nat} {w w' w2 : World} {ok ok' ok2 : Nat → Prop} {μ μ' μ2 : List MB} {hp hp' : Hp}
theorem flatC_rel {c : C} {x : Value} (h : flatC c = true) (hr : CRel w ok μ c x) : CRel w2 ok2 μ2 c x := by
  unfold flatC at h
  split at h
  · cases hr with | v hr => cases hr with | lit _ h => exact .v (.lit _ h)
  · cases h
theorem flatCs_rel : ∀ {cs : List C} {xs : List Value}, cs.all flatC = true → All2 (CRel w ok μ) cs xs → All2 (CRel w2 ok2 μ2) cs xs
  | [], _, _, .nil => .nil
  | c :: cs, _, h, .cons hc ht => by
    simp only [List.all_cons, Bool.and_eq_true] at h
    exact .cons (flatC_rel h.1 hc) (flatCs_rel h.2 ht)
mutual
theorem flatAV_rel : ∀ {v : AV} {x : Value}, flatAV v = true → AVRel w ok μ v x → AVRel w2 ok2 μ2 v x
  | .one _, _, h, .one hc => .one (flatC_rel h hc)
  | .agg _, _, h, .agg hc => .agg (flatCs_rel h hc)
  | .tup _, _, h, .tup ht => .tup (flatAVs_rel h ht)
theorem flatAVs_rel : ∀ {l : List AV} {xs : List Value}, flatAVs l = true → AVRels w ok μ l xs → AVRels w2 ok2 μ2 l xs
  | [], _, _, .nil => .nil
  | v :: l, _, h, .cons hv ht => by
    simp only [flatAVs, Bool.and_eq_true] at h
    exact .cons (flatAV_rel h.1 hv) (flatAVs_rel h.2 ht)
end
theorem not_own_nil {μ : List MB} {b : Nat} : ¬ OwnL [] μ b := fun ⟨i, blk, m, h, _⟩ => by simp at h
theorem hr_nil (h : ∀ b, ok b → b < w.heap.size) : HR w ok [] [] :=
  ⟨rfl, fun i b h => by simp at h, fun i j b c m n k _ h => by simp at h, fun k hk => ⟨h k hk, fun i b m h => by simp at h⟩⟩
theorem step_frame (hr : HR w ok μ hp) (hs : Step w ok [] [] w' ok' μ' []) : Step w ok μ hp w' ok' μ hp := by
  have hf : ∀ b, b < w.heap.size → w'.heap[b]? = w.heap[b]? := fun b hb => hs.frame b hb not_own_nil
  refine ⟨⟨hr.len, ?_, hr.inj, ?_⟩, hs.os, hs.tape, hs.output, hs.size, fun b hb _ => hf b hb, hs.oksub, ?_, fun b h => .inr h, fun _ _ h => h⟩
  · intro i b hb
    obtain ⟨m, h1, h2⟩ := hr.rel i b hb
    exact ⟨m, h1, h2.mono (fun b hb => hf b (hr.keep hb).1) hs.oksub (fun _ _ h => h) fun b hb => hf b (h2.lt hb)⟩
  · intro b hb
    refine ⟨(hs.hr.okn b hb).1, fun i c m h1 h2 h3 => ?_⟩
    rcases hs.okfrom b hb with h4 | h4 | h4
    · exact (hr.okn b h4).2 i c m h1 h2 h3
    · have := hr.own_lt ⟨i, c, m, h1, h2, h3⟩; omega
    · exact not_own_nil h4
  · intro b hb
    rcases hs.okfrom b hb with h4 | h4 | h4
    · exact .inl h4
    · exact .inr (.inl h4)
    · exact (not_own_nil h4).elim
theorem idC_rel {c : C} {x : Value} (h : idC c = true) (hr : CRel w ok μ c x) : CRel w ok μ2 c x := by
  cases hr with
  | v h1 => exact .v h1
  | vptr b off cv a b' c => exact .vptr _ _ _ a b' c
  | full h1 => exact .full h1
  | nil => exact .nil
  | _ => simp [idC] at h
theorem idCs_rel : ∀ {cs : List C} {xs : List Value}, cs.all idC = true → All2 (CRel w ok μ) cs xs → All2 (CRel w ok μ2) cs xs
  | [], _, _, .nil => .nil
  | c :: cs, _, h, .cons hc ht => by
    simp only [List.all_cons, Bool.and_eq_true] at h
    exact .cons (idC_rel h.1 hc) (idCs_rel h.2 ht)
mutual
theorem idAV_rel : ∀ {v : AV} {x : Value}, idAV v = true → AVRel w ok μ v x → AVRel w ok μ2 v x
  | .one _, _, h, .one hc => .one (idC_rel h hc)
  | .agg _, _, h, .agg hc => .agg (idCs_rel h hc)
  | .tup _, _, h, .tup ht => .tup (idAVs_rel h ht)
  | .fn _ _ _, _, h, .fn h1 h2 => by
    simp only [idAV, Bool.and_eq_true] at h
    exact .fn (idCs_rel h.1 h1) (idCs_rel h.2 h2)
  | .any, _, _, _ => .any
theorem idAVs_rel : ∀ {l : List AV} {xs : List Value}, idAVs l = true → AVRels w ok μ l xs → AVRels w ok μ2 l xs
  | [], _, _, .nil => .nil
  | v :: l, _, h, .cons hv ht => by
    simp only [idAVs, Bool.and_eq_true] at h
    exact .cons (idAV_rel h.1 hv) (idAVs_rel h.2 ht)
end
theorem borrow_step (hr : HR w ok μ hp) (hs : Step w ok2 [] [] w' ok' μ' []) : Step w ok μ hp w' ok μ hp := by
  have hf : ∀ b, b < w.heap.size → w'.heap[b]? = w.heap[b]? := fun b hb => hs.frame b hb not_own_nil
  refine ⟨⟨hr.len, ?_, hr.inj, ?_⟩, hs.os, hs.tape, hs.output, hs.size, fun b hb _ => hf b hb, fun _ h => h, fun b h => .inl h, fun b h => .inr h, fun _ _ h => h⟩
  · intro i b hb
    obtain ⟨m, h1, h2⟩ := hr.rel i b hb
    exact ⟨m, h1, h2.mono (fun b hb => hf b (hr.keep hb).1) (fun _ h => h) (fun _ _ h => h) fun b hb => hf b (h2.lt hb)⟩
  · intro b hb
    exact ⟨Nat.lt_of_lt_of_le (hr.keep hb).1 hs.size, (hr.okn b hb).2⟩
end
def nzC (hp : Hp) : C → C
  | .ar i => match hp[i]? with | some (some (.arr _ _ rows)) => .v (.sl rows) | _ => .ar i
  | .nil => .v (.sl [])
  | .full rows => .v (.sl rows)
  | c => c
def nzCs (hp : Hp) : List C → List C
  | [] => []
  | c :: r => nzC hp c :: nzCs hp r
def nzAV (hp : Hp) : AV → AV
  | .one c => .one (nzC hp c)
  | .agg cs => .agg (nzCs hp cs)
  | v => v
def dropF : List Nat → Hp → Hp
  | [], hp => hp
  | i :: l, hp => dropF l (hp.set i none)
def frzOp (P : Program) (hp : Hp) (ev : Operand → AV) : Op → Option (Prop × AV × Hp)
  | .buildSlice t len parts => match (tiOf P t).map TI.sh with
    | some (.slice e) => match tiOf P e with
      | some j => if j.size ≠ 0 ∧ len * j.size ≤ 2 ^ 24 ∧ parts.size = len then
          (partRows j.size 0 (parts.toList.map fun (k, x) => (k, nzAV hp (ev x)))).map fun rows => (True, .one (.ar (dropF (arsOf ev (parts.toList.map (·.2))) hp).length), dropF (arsOf ev (parts.toList.map (·.2))) hp ++ [some (.arr e j.size rows)])
        else none
      | none => none
    | _ => none
  | _ => none
end Go.Proofs.AE
set_option linter.unusedVariables false
set_option linter.unusedSimpArgs false
namespace Go.Proofs.AE
open Go Go.RowKit
structure Far (k : Nat) (w : World) (ok : Nat → Prop) (μ : List MB) (hp : Hp) (w' : World) (ok' : Nat → Prop) (μ' : List MB) (hp' : Hp) : Prop where
  hr : HR w' ok' μ' hp'
  os : w'.os = w.os
  tape : w'.tape = w.tape
  output : w'.output = w.output
  size : w.heap.size ≤ w'.heap.size
  frame : ∀ b, b < w.heap.size → ¬ OwnL hp μ b → w'.heap[b]? = w.heap[b]?
  oksub : ∀ b, ok b → ok' b
  okfrom : ∀ b, ok' b → ok b ∨ w.heap.size ≤ b ∨ OwnL hp μ b
  ownfrom : ∀ b, OwnL hp' μ' b → w.heap.size ≤ b ∨ OwnL hp μ b
  ext : ∀ (i : Nat) m, i < k → μ[i]? = some m → μ'[i]? = some m
theorem Step.far {k : Nat} {w w' : World} {ok ok' : Nat → Prop} {μ μ' : List MB} {hp hp' : Hp} (h : Step w ok μ hp w' ok' μ' hp') : Far k w ok μ hp w' ok' μ' hp' :=
  ⟨h.hr, h.os, h.tape, h.output, h.size, h.frame, h.oksub, h.okfrom, h.ownfrom, fun i m _ => h.ext i m⟩
theorem Far.step {w w' : World} {ok ok' : Nat → Prop} {μ μ' : List MB} {hp hp' : Hp} (h : Far μ.length w ok μ hp w' ok' μ' hp') : Step w ok μ hp w' ok' μ' hp' :=
  ⟨h.hr, h.os, h.tape, h.output, h.size, h.frame, h.oksub, h.okfrom, h.ownfrom, fun i m hm => h.ext i m (lt_of_getElem? hm) hm⟩
theorem Far.trans {k : Nat} {w w' w'' : World} {ok ok' ok'' : Nat → Prop} {μ μ' μ'' : List MB} {hp hp' hp'' : Hp} (h : Far k w ok μ hp w' ok' μ' hp') (h' : Far k w' ok' μ' hp' w'' ok'' μ'' hp'') : Far k w ok μ hp w'' ok'' μ'' hp'' where
  hr := h'.hr
  os := h'.os.trans h.os
  tape := h'.tape.trans h.tape
  output := h'.output.trans h.output
  size := Nat.le_trans h.size h'.size
  frame b hb hn := by
    rw [h'.frame b (Nat.lt_of_lt_of_le hb h.size) (fun ho => by rcases h.ownfrom b ho with h1 | h1; omega; exact hn h1), h.frame b hb hn]
  oksub b hb := h'.oksub b (h.oksub b hb)
  okfrom b hb := by
    rcases h'.okfrom b hb with h1 | h1 | h1
    · exact h.okfrom b h1
    · exact .inr (.inl (Nat.le_trans h.size h1))
    · rcases h.ownfrom b h1 with h2 | h2
      · exact .inr (.inl h2)
      · exact .inr (.inr h2)
  ownfrom b hb := by
    rcases h'.ownfrom b hb with h1 | h1
    · exact .inl (Nat.le_trans h.size h1)
    · exact h.ownfrom b h1
  ext i m hi hm := h'.ext i m hi (h.ext i m hi hm)
def GRel (w : World) (ok : Nat → Prop) (G : Nat → AV) : Prop := ∀ g ν, AVRel w ok ν (G g) (.pointer (some ⟨g, 0, none⟩))
def ACall (P : Program) (G : Nat → AV) (f : Nat) (hp : Hp) (args : List AV) (K : AV → Hp → Prop) : Prop :=
  ∀ (w : World) (ok : Nat → Prop) (μ : List MB) (xs : List Value), HR w ok μ hp → GRel w ok G → AVRels w ok μ args xs →
    Calls P f xs.toArray w fun e w' => ∃ x r hp' ok' μ', e = .returned x ∧ Step w ok μ hp w' ok' μ' hp' ∧ AVRel w' ok' μ' r x ∧ K r hp'
theorem ACall.mono {P : Program} {G : Nat → AV} {f : Nat} {hp : Hp} {args : List AV} {K K' : AV → Hp → Prop} (h : ACall P G f hp args K) (hk : ∀ r hp', K r hp' → K' r hp') : ACall P G f hp args K' :=
  fun w ok μ xs h1 h2 h3 => (h w ok μ xs h1 h2 h3).mono fun _ _ ⟨x, r, hp', ok', μ', a, b, c, d⟩ => ⟨x, r, hp', ok', μ', a, b, c, hk _ _ d⟩
def enters (P : Program) (g : Nat) : Bool := match P.funcs[g]? with | some fn => !(fn.name == "runtime.NumGoroutine") && !fn.body.isNone | none => false
def callOf (ev : Operand → AV) : Op → Option (Nat × List AV)
  | .call { callee := .value f, args := args, argTypes := _ } => match ev f with
    | .fn g first caps => some (g, first.map .one ++ args.toList.map ev ++ caps.map .one)
    | _ => none
  | _ => none
def nilTest (P : Program) (hp : Hp) (ev : Operand → AV) : Op → Option (Bool × List (List V))
  | .binOp op t x y _ => match op, (tiOf P t).map TI.sh, ev y, rowsOf hp (ev x) with
    | .eql, some (.slice _), .one .nil, some rows => some (false, rows)
    | .neq, some (.slice _), .one .nil, some rows => some (true, rows)
    | _, _, _, _ => none
  | _ => none
def pickOf (ev : Operand → AV) : Op → Option (Bool × AV × AV)
  | .pick c a b => match ev c with | .one (.v (.lit (.bool q))) => some (q, ev a, ev b) | _ => none
  | _ => none
def bl (b : Bool) : AV := .one (.v (.lit (.bool b)))
structure Held.{u} {α : Sort u} (a : α) : Type where
def Cnd (b want : Bool) (s s' : S) (A B : S → Prop) (_ : Held A) (_ : Held B) : Prop := (b = want → A s) ∧ (b = !want → B s')
def CallK (P : Program) (G : Nat → AV) (f : Nat) (hp : Hp) (args : List AV) (K : AV → Hp → Prop) (_ : Held K) : Prop := ACall P G f hp args K
def FrzK (P : Program) (o : AOp) (s : S) (K : S → Prop) (_ : Held K) : Prop :=
  match callOf s.eval o.op with
  | some (f, args) => enters P f = true ∧ CallK P s.gl f s.hp args (fun r hp' => K ({ s with hp := hp' }.put o.dst r)) ⟨⟩
  | none => False
def CallB (P : Program) (G : Nat → AV) (f : Nat) (args : List AV) (K : AV → Prop) (_ : Held K) : Prop := ∃ r, idAVs args = true ∧ flatAV r = true ∧ K r ∧ ACall P G f [] args fun r' hp' => hp' = [] ∧ r' = r
def BorK (P : Program) (o : AOp) (s s' : S) (K : S → Prop) (_ : Held K) : Prop :=
  match callOf s'.eval o.op with
  | some (f, args) => enters P f = true ∧ CallB P s.gl f args (fun r => K (s.put o.dst r)) ⟨⟩
  | none => False
def CallZ (P : Program) (o : AOp) (s : S) (f : Nat) (args : List AV) (K : S → Prop) (_ : Held K) : Prop :=
  CallK P s.gl f s.hp args (fun r hp' => K ({ s with hp := hp' }.put o.dst r)) ⟨⟩ ∨ BorK P o s (frz (arsOf s.eval (opsOf o.op)) s) K ⟨⟩ ∨ FrzK P o (frz (arsOf s.eval (opsOf o.op)) s) K ⟨⟩
def aop1 (P : Program) (o : AOp) (s : S) (K : S → Prop) : Prop :=
  match pureOp P s.hp s.eval o.op with
  | some (p, v) => p ∧ K (s.put o.dst v)
  | none => match heapOp P s.hp s.eval o.op with
    | some (p, v, hp') => p ∧ K ({ s with hp := hp' }.put o.dst v)
    | none => False
def aopL (P : Program) (o : AOp) (s : S) (K : S → Prop) : Prop :=
  match pickOf s.eval o.op with
  | some (q, a, b) => Cnd q true (s.put o.dst a) (s.put o.dst b) K K ⟨⟩ ⟨⟩
  | none => match nilTest P s.hp s.eval o.op with
    | some (neg, rows) => ∀ q : Bool, (q = true → rows = []) → K (s.put o.dst (bl (q != neg)))
    | none => aop1 P o (frz (arsOf s.eval (opsOf o.op)) s) K
def aopC (P : Program) (o : AOp) (s : S) (K : S → Prop) : Prop :=
  match callOf s.eval o.op with
  | some (f, args) => enters P f = true ∧ CallZ P o s f args K ⟨⟩
  | none => aopL P o s K
def aopJ (P : Program) (o : AOp) (s : S) (K : S → Prop) : Prop :=
  match exOp P s.hp s.eval o.op with
  | some (p, v, hp') => p ∧ K ({ s with hp := hp' }.put o.dst v)
  | none => match arjNewG P s.hp s.eval o.op with
    | some (p, lo, F) => p ∧ ∀ c, lo ≤ c → c ≤ maxLen → K ({ s with hp := (F c).2 }.put o.dst (F c).1)
    | none => aopC P o s K
def aopH (P : Program) (o : AOp) (s : S) (K : S → Prop) : Prop :=
  match heapOp P s.hp s.eval o.op with
  | some (p, v, hp') => p ∧ K ({ s with hp := hp' }.put o.dst v)
  | none => aopJ P o s K
def aop (P : Program) (o : AOp) (s : S) (K : S → Prop) : Prop :=
  match pureOp P s.hp s.eval o.op with
  | some (p, v) => p ∧ K (s.put o.dst v)
  | none => aopH P o s K
def aops (P : Program) : List AOp → S → (S → Prop) → Prop
  | [], s, K => K s
  | o :: os, s, K =>
    match o.g with
    | none => aop P o s fun s' => aops P os s' K
    | some (t, want) => match getF s.fr t with
      | .one (.v (.lit (.bool b))) => Cnd b want (s.put (some t) (bl want)) ((s.put (some t) (bl (!want))).put o.dst (.tup [])) (fun s => aop P o s fun s' => aops P os s' K) (fun s => aops P os s K) ⟨⟩ ⟨⟩
      | .tup [] => aops P os (s.put o.dst (.tup [])) K
      | _ => False
def DCall (P : Program) (G : Nat → AV) (f : Nat) (hp : Hp) (args : List AV) (K : AV → Hp → Prop) (_ : Held K) : Prop :=
  ∃ r hp', (ACall P G f hp args fun r' hp'' => r' = r ∧ hp'' = hp') ∧ K r hp'
def aopDH (P : Program) (o : AOp) (s : S) (K : S → Prop) : Prop :=
  match heapOp P s.hp s.eval o.op with
  | some (p, v, hp') => p ∧ K ({ s with hp := hp' }.put o.dst v)
  | none => match exOp P s.hp s.eval o.op with
   | some (p, v, hp') => p ∧ K ({ s with hp := hp' }.put o.dst v)
   | none => match callOf s.eval o.op with
    | some (f, args) => enters P f = true ∧ DCall P s.gl f s.hp args (fun r hp' => K ({ s with hp := hp' }.put o.dst r)) ⟨⟩
    | none => match pickOf s.eval o.op with
      | some (q, a, b) => Cnd q true (s.put o.dst a) (s.put o.dst b) K K ⟨⟩ ⟨⟩
      | none => match frzOp P s.hp s.eval o.op with
        | some (p, v, hp') => p ∧ K ({ s with hp := hp' }.put o.dst v)
        | none => False
def aopD (P : Program) (o : AOp) (s : S) (K : S → Prop) : Prop :=
  match pureOp P s.hp s.eval o.op with
  | some (p, v) => p ∧ K (s.put o.dst v)
  | none => aopDH P o s K
def aopsD (P : Program) : List AOp → List S → S → (List S → S → Prop) → Prop
  | [], h, s, K => K h s
  | o :: os, h, s, K =>
    match o.g with
    | none => aopD P o s fun s' => aopsD P os (h ++ [s']) s' K
    | some (t, want) => match getF s.fr t with
      | .one (.v (.lit (.bool b))) => Cnd b want (s.put (some t) (bl want)) ((s.put (some t) (bl (!want))).put o.dst (.tup [])) (fun s => aopD P o s fun s' => aopsD P os (h ++ [s']) s' K) (fun s => aopsD P os (h ++ [s]) s K) ⟨⟩ ⟨⟩
      | .tup [] => aopsD P os (h ++ [s.put o.dst (.tup [])]) (s.put o.dst (.tup [])) K
      | _ => False
def stables (P : Program) (al : List AOp) (st : List S) : List (Nat × Nat) → Prop
  | [] => True
  | (k, l) :: r => (match al[k]?, st[k]?, st[l]?, st[l + 1]? with
      | some a, some sk, some sl, some sm => pureOp P sm.hp sk.eval a.op = pureOp P sl.hp sk.eval a.op
      | _, _, _, _ => False) ∧ stables P al st r
def allAlts (P : Program) (s : S) (K : S → Prop) : List (List AOp × List (Nat × Nat)) → Prop
  | [] => True
  | (al, ps) :: r => aopsD P al [] s (fun h s' => stables P al (s :: h) ps ∧ K s') ∧ allAlts P s K r
def thenA (next : S → Prop) (Q : Exit → S → Prop) : Exit → S → Prop
  | .normal, s => next s
  | e, s => Q e s
def blockA (id : Nat) (Q : Exit → S → Prop) : Exit → S → Prop
  | .exit id', s => if id' = id then Q .normal s else Q (.exit id') s
  | e, s => Q e s
def Weak (k : Nat) (s s' : S) : Prop :=
  s'.gl = s.gl ∧ ∀ (n : Nat) (w : World) (ok : Nat → Prop) (μ : List MB) (a : Act), St n w ok μ s a → ∃ ok' μ', St n w ok' μ' s' a ∧ Far k w ok μ s.hp w ok' μ' s'.hp
def Wk (k : Nat) (s : S) (K : S → Prop) (_ : Held K) : Prop := ∃ s', Weak k s s' ∧ K s'
def awp (P : Program) (k : Nat) : ACode → (Exit → S → Prop) → S → Prop
  | .skip, Q, s => Q .normal s
  | .reg ops, Q, s => aops P ops s (Q .normal)
  | .regD alts, Q, s => allAlts P s (fun s' => Wk k s' (Q .normal) ⟨⟩) alts
  | .seq a b, Q, s => awp P k a (thenA (awp P k b Q) Q) s
  | .cond c t e, Q, s => match s.eval c with
    | .one (.v (.lit (.bool b))) => Cnd b true s s (awp P k t Q) (awp P k e Q) ⟨⟩ ⟨⟩
    | _ => False
  | .block id c, Q, s => awp P k c (blockA id Q) s
  | .loop c, Q, s => ∃ (I : S → Prop) (m : S → Nat), (∃ s0, Weak k s s0 ∧ I s0) ∧ ∀ s, I s → awp P k c (thenA (fun s' => ∃ s'', Weak k s' s'' ∧ I s'' ∧ m s'' < m s) Q) s
  | .exit id, Q, s => Q (.exit id) s
  | .ret, Q, s => Q .ret s
section
variable {P : Program} {G : Nat → AV} {k n : Nat} {w w0 : World} {ok ok0 : Nat → Prop} {μ μ0 : List MB} {hp0 : Hp} {s : S} {a : Act}
def Holds (k n : Nat) (w0 : World) (ok0 : Nat → Prop) (μ0 : List MB) (hp0 : Hp) (G : Nat → AV) (K : S → Prop) (a : Act) (w : World) : Prop :=
  ∃ ok μ s, St n w ok μ s a ∧ Far k w0 ok0 μ0 hp0 w ok μ s.hp ∧ s.gl = G ∧ K s
theorem Act.put_size (a : Act) (d : Option Nat) (x : Value) : (a.put d x).tmps.size = a.tmps.size := by
  cases d <;> simp [Act.put]
theorem St.put (h : St n w ok μ s a) {v : AV} {x : Value} (hv : AVRel w ok μ v x) {d : Option Nat} (hd : ∀ t, d = some t → t < n) : St n w ok μ (s.put d v) (a.put d x) := by
  cases d with
  | none => exact h
  | some t =>
    refine ⟨h.hr, by rw [Act.put_size]; exact h.size, h.defers, fun u => ?_, h.gl⟩
    have hlt := hd t rfl
    simp only [S.put, Act.put, getF]
    by_cases hu : t = u
    · subst hu
      rw [if_pos rfl]
      simp [Array.getD_eq_getD_getElem?, h.size, hlt, hv]
    · rw [if_neg hu]
      simp only [Array.getD_eq_getD_getElem?, Array.getElem?_setIfInBounds_ne hu]
      have := h.fr u
      rwa [Array.getD_eq_getD_getElem?] at this
theorem St.reput (h : St n w ok μ s a) {t : Nat} {v : AV} (hv : getF s.fr t = v) : St n w ok μ (s.put (some t) v) a := by
  refine ⟨h.hr, h.size, h.defers, fun u => ?_, h.gl⟩
  simp only [S.put, getF]
  by_cases hu : t = u
  · subst hu; rw [if_pos rfl, ← hv]; exact h.fr t
  · rw [if_neg hu]; exact h.fr u
theorem St.step (h : St n w ok μ s a) {w' : World} {ok' : Nat → Prop} {μ' : List MB} {hp' : Hp} (hs : Step w ok μ s.hp w' ok' μ' hp') : St n w' ok' μ' { s with hp := hp' } a :=
  ⟨hs.hr, h.size, h.defers, fun t => hs.av h.hr (h.fr t), fun g ν => (h.gl g ν).mono (hs.keep h.hr) hs.oksub⟩
theorem Holds.mono {K K' : S → Prop} (h : Holds k n w0 ok0 μ0 hp0 G K a w) (hk : ∀ s, K s → K' s) : Holds k n w0 ok0 μ0 hp0 G K' a w :=
  let ⟨ok, μ, s, h1, h2, h3, h4⟩ := h; ⟨ok, μ, s, h1, h2, h3, hk s h4⟩
theorem avrels_append {l l' : List AV} {xs xs' : List Value} (h : AVRels w ok μ l xs) (h' : AVRels w ok μ l' xs') : AVRels w ok μ (l ++ l') (xs ++ xs') := by
  induction l generalizing xs with
  | nil => cases h; exact h'
  | cons v l ih => cases h with | cons h t => exact .cons h (ih t)
theorem avrels_one {cs : List C} {xs : List Value} (h : All2 (CRel w ok μ) cs xs) : AVRels w ok μ (cs.map .one) xs := by
  induction h with
  | nil => exact .nil
  | cons h _ ih => exact .cons (.one h) ih
theorem run_equalIn_nil {t e : TypeId} (hu : P.underlying t = some (.slice e)) (d : Nat) (z : Option Addr) (l c : Nat) : (Op.equalIn (d + 1) t (.slice z l c) (.slice none 0 0)).run P w = .ok z.isNone w := by
  cases z <;> simp [Op.equalIn, run_underlying hu]
theorem run_equal_nil {t e : TypeId} (hu : P.underlying t = some (.slice e)) (z : Option Addr) (l c : Nat) : (Op.equal t (.slice z l c) (.slice none 0 0)).run P w = .ok z.isNone w :=
  run_equalIn_nil hu 9999 z l c
theorem call_run {o : Oper} (hst : St n w ok μ s a) {f : Nat} {args : List AV} (hc : callOf s.eval o.op = some (f, args)) (hent : enters P f = true) :
    ∃ xs : List Value, AVRels w ok μ args xs ∧ (execOp a.eval o).run P w = .ok (.enter f xs.toArray) w := by
  unfold callOf at hc
  split at hc
  · rename_i fo as ts heq
    split at hc
    · rename_i g first caps hfe
      cases hc
      have hfr := hst.eval fo
      rw [hfe] at hfr
      cases hfv : a.eval fo with
      | func fn fs cs =>
        rw [hfv] at hfr
        cases hfr with | fn hfirst hcaps =>
        have hargs : AVRels w ok μ (first.map .one ++ as.toList.map s.eval ++ caps.map .one) (fs.toList ++ (as.toList.map a.eval) ++ cs.toList) :=
          avrels_append (avrels_append (avrels_one hfirst) (avrels_map hst.eval as.toList)) (avrels_one hcaps)
        refine ⟨_, hargs, ?_⟩
        unfold enters at hent
        split at hent
        · rename_i fn hfn
          simp only [Bool.and_eq_true, Bool.not_eq_true'] at hent
          simp only [execOp, heq, resolve, hfv, Deferred.ofValue, Sem.run_bind, Sem.run_pure, Result.andThen_ok, invoke, callFunc, run_program, hfn, hent.1, hent.2, Bool.false_eq_true, if_false]
          congr 2
          apply Array.ext'
          simp
        · cases hent
      | _ => rw [hfv] at hfr; cases hfr
    · cases hc
  · cases hc
theorem aop_sound {o : Oper} {ao : AOp} (hao : ao.dst = o.dst ∧ ao.op = o.op) (hd : ∀ t, o.dst = some t → t < n) (hst : St n w ok μ s a) (hfar : Far k w0 ok0 μ0 hp0 w ok μ s.hp) (hg : s.gl = G)
    {K : S → Prop} (h : aop P ao s K) {K' : Act → World → Prop} (hK : ∀ a w, Holds k n w0 ok0 μ0 hp0 G K a w → K' a w) {Q : Exit → Act → World → Prop} : o.wp P a w K' Q := by
  obtain ⟨h1, h2⟩ := hao
  unfold aop aopH aopJ aopC aopL at h
  rw [h1, h2] at h
  unfold Oper.wp
  split at h
  · rename_i p v hp
    obtain ⟨hpp, hk⟩ := h
    obtain ⟨x, hx, hr⟩ := pureOp_sound (w := w) hst.hr hst.eval hp hpp
    rw [hx]
    exact hK _ _ ⟨ok, μ, _, hst.put hr hd, by cases o.dst <;> exact hfar, by cases o.dst <;> exact hg, hk⟩
  · split at h
    · rename_i p v hp' hp
      obtain ⟨hpp, hk⟩ := h
      obtain ⟨nx, w', μ', hx, hs, hr⟩ := heapOp_sound (w := w) hst.hr hst.eval hp hpp
      rw [hx]
      have hfar' := hfar.trans (hs.far (k := k))
      rcases hr with ⟨x, rfl, hr⟩ | ⟨rfl, rfl⟩
      · exact hK _ _ ⟨ok, μ', _, (hst.step hs).put hr hd, by cases o.dst <;> exact hfar', by cases o.dst <;> exact hg, hk⟩
      · exact hK _ _ ⟨ok, μ', _, (hst.step hs).put .any hd, by cases o.dst <;> exact hfar', by cases o.dst <;> exact hg, hk⟩
    · split at h
      · rename_i p v hp' hp
        obtain ⟨hpp, hk⟩ := h
        obtain ⟨nx, w', μ', hx, hs, hr⟩ := exOp_sound (w := w) hst.hr hst.eval hp hpp
        rw [hx]
        have hfar' := hfar.trans (hs.far (k := k))
        rcases hr with ⟨x, rfl, hr⟩ | ⟨rfl, rfl⟩
        · exact hK _ _ ⟨ok, μ', _, (hst.step hs).put hr hd, by cases o.dst <;> exact hfar', by cases o.dst <;> exact hg, hk⟩
        · exact hK _ _ ⟨ok, μ', _, (hst.step hs).put .any hd, by cases o.dst <;> exact hfar', by cases o.dst <;> exact hg, hk⟩
      split at h
      · rename_i p lo F hp
        obtain ⟨hpp, hk⟩ := h
        obtain ⟨c, hc1, hc2, nx, w', μ', hx, hs, hr⟩ := arjNewG_sound (w := w) hst.hr hst.eval hp hpp
        have hk := hk c hc1 hc2
        rw [hx]
        have hfar' := hfar.trans (hs.far (k := k))
        rcases hr with ⟨x, rfl, hr⟩ | ⟨rfl, hr⟩
        · exact hK _ _ ⟨ok, μ', _, (hst.step hs).put hr hd, by cases o.dst <;> exact hfar', by cases o.dst <;> exact hg, hk⟩
        · rw [hr] at hk
          exact hK _ _ ⟨ok, μ', _, (hst.step hs).put .any hd, by cases o.dst <;> exact hfar', by cases o.dst <;> exact hg, hk⟩
      split at h
      · rename_i f args hc
        obtain ⟨hent, hcall⟩ := h
        have plain : ∀ {ok : Nat → Prop} {s : S}, St n w ok μ s a → Far k w0 ok0 μ0 hp0 w ok μ s.hp → s.gl = G → ∀ {f : Nat} {args : List AV}, callOf s.eval o.op = some (f, args) → enters P f = true →
            ACall P s.gl f s.hp args (fun r hp' => K ({ s with hp := hp' }.put o.dst r)) → Oper.upon P o a K' Q ((execOp a.eval o).run P w) := by
          intro ok s hst hfar hg f args hc hent hcall
          obtain ⟨xs, hargs, hrun⟩ := call_run hst hc hent
          have hC := hcall w ok μ _ hst.hr hst.gl hargs
          rw [hrun]
          simp only [Oper.upon]
          refine hC.mono ?_
          rintro e w' ⟨x, r, hp', ok', μ', rfl, hs, hr, hk⟩
          exact hK _ _ ⟨ok', μ', _, (hst.step hs).put hr hd, by have := hfar.trans (hs.far (k := k)); cases o.dst <;> exact this, by cases o.dst <;> exact hg, hk⟩
        obtain ⟨okz, hstz, hsz⟩ := frz_st (l := arsOf s.eval (opsOf o.op)) hst
        unfold CallZ at hcall
        rw [h1, h2] at hcall
        rcases hcall with hcall | hcall | hcall
        · exact plain hst hfar hg hc hent hcall
        · unfold BorK at hcall
          split at hcall
          · rename_i f' args' hc'
            obtain ⟨hent', r, hid, hflat, hk, hcall'⟩ := hcall
            rw [h2] at hc'
            obtain ⟨xs, hargs, hrun⟩ := call_run hstz hc' hent'
            have hC := hcall' w okz [] xs (hr_nil fun b hb => (hstz.hr.keep hb).1) (fun g ν => (hst.gl g ν).mono (fun _ _ => rfl) hsz.oksub) (idAVs_rel hid hargs)
            rw [hrun]
            simp only [Oper.upon]
            refine hC.mono ?_
            rintro e w' ⟨x, r', hp', ok', μ', rfl, hs, hr, rfl, rfl⟩
            have hst' := borrow_step hst.hr hs
            exact hK _ _ ⟨ok, μ, _, ((hst.step hst').put (flatAV_rel hflat hr) hd), by have := hfar.trans (hst'.far (k := k)); cases o.dst <;> exact this, by cases o.dst <;> exact hg, h1 ▸ hk⟩
          · exact hcall.elim
        · unfold FrzK at hcall
          rw [h1, h2] at hcall
          split at hcall
          · rename_i f' args' hc'
            obtain ⟨hent', hcall'⟩ := hcall
            exact plain hstz (hfar.trans (hsz.far (k := k))) (frz_gl.trans hg) hc' hent' hcall'
          · exact hcall.elim
      · split at h
        · rename_i q va vb hpk
          unfold pickOf at hpk
          split at hpk
          · rename_i c x y heq
            split at hpk
            · rename_i q' hcq
              cases hpk
              have hc := hst.eval c
              rw [hcq] at hc
              have hc' := lit_rel hc
              have hrun : (execOp a.eval o).run P w = .ok (.value (if q then a.eval x else a.eval y)) w := by
                simp [execOp, heq, hc', asBool]
              rw [hrun]
              cases q with
              | true => exact hK _ _ ⟨ok, μ, _, hst.put (hst.eval x) hd, by cases o.dst <;> exact hfar, by cases o.dst <;> exact hg, h.1 rfl⟩
              | false => exact hK _ _ ⟨ok, μ, _, hst.put (hst.eval y) hd, by cases o.dst <;> exact hfar, by cases o.dst <;> exact hg, h.2 rfl⟩
            · cases hpk
          · cases hpk
        · split at h
          · rename_i neg rows hnt
            unfold nilTest at hnt
            split at hnt
            · rename_i op t x y yt heq
              have hy := hst.eval y
              have key : ∀ e, (tiOf P t).map TI.sh = some (.slice e) → s.eval y = .one .nil → rowsOf s.hp (s.eval x) = some rows → ∃ q : Bool, (q = true → rows = []) ∧ (Op.equal t (a.eval x) (a.eval y)).run P w = .ok q w ∧ (∀ b, (eqGuard b t x y (a.eval x) (a.eval y)).run P w = .ok () w) ∧ ∃ l c z, a.eval x = .slice z l c ∧ a.eval y = .slice none 0 0 := by
                intro e hs hye hrows
                rw [hye] at hy
                obtain ⟨i, hi, hi'⟩ := Option.map_eq_some_iff.1 hs
                have hu := (tiOf_spec hi).slice hi'
                have hyv : a.eval y = .slice none 0 0 := by
                  cases hyv : a.eval y with
                  | slice z l c => rw [hyv] at hy; cases hy with | one hc => cases hc; rfl
                  | _ => rw [hyv] at hy; cases hy with | one hc => cases hc
                have hgd : ∀ z l c, a.eval x = .slice z l c → ∀ b, (eqGuard b t x y (a.eval x) (a.eval y)).run P w = .ok () w := by
                  intro z l c hxv b
                  refine eqGuard_lit _ _ _ _ ?_ ?_
                  · rw [hxv]; intro _ _ h; cases h
                  · rw [hxv]; intro h; cases h
                rcases rowsOf_rel hst.hr hrows (hst.eval x) with ⟨hxv, hn⟩ | ⟨b, cap, hxv, _⟩
                · exact ⟨true, fun _ => hn, by rw [hxv, hyv]; exact run_equal_nil hu _ _ _, hgd _ _ _ hxv, _, _, _, hxv, hyv⟩
                · exact ⟨false, (fun h => by cases h), by rw [hxv, hyv]; exact run_equal_nil hu _ _ _, hgd _ _ _ hxv, _, _, _, hxv, hyv⟩
              split at hnt
              · rename_i hs hye hrows
                cases hnt
                obtain ⟨q, hq, hrun, hgd, l, c, z, hxv, hyv⟩ := key _ hs hye hrows
                have hr : (execOp a.eval o).run P w = .ok (.value (.bool q)) w := by
                  have hg' := hgd .eql
                  rw [hxv, hyv] at hrun hg'
                  simp only [execOp, heq, Sem.run_bind, hxv, hyv, hg', Result.andThen_ok, binOp, hrun, Sem.run_pure]
                rw [hr]
                have := h q hq
                exact hK _ _ ⟨ok, μ, _, hst.put (v := bl q) (avlit rfl) hd, by cases o.dst <;> exact hfar, by cases o.dst <;> exact hg, by simpa using this⟩
              · rename_i hs hye hrows
                cases hnt
                obtain ⟨q, hq, hrun, hgd, l, c, z, hxv, hyv⟩ := key _ hs hye hrows
                have hr : (execOp a.eval o).run P w = .ok (.value (.bool (!q))) w := by
                  have hg' := hgd .neq
                  rw [hxv, hyv] at hrun hg'
                  simp only [execOp, heq, Sem.run_bind, hxv, hyv, hg', Result.andThen_ok, binOp, hrun, Sem.run_pure]
                rw [hr]
                have := h q hq
                exact hK _ _ ⟨ok, μ, _, hst.put (v := bl (!q)) (avlit rfl) hd, by cases o.dst <;> exact hfar, by cases o.dst <;> exact hg, by simpa using this⟩
              · cases hnt
            · cases hnt
          · obtain ⟨okz, hstz, hsz⟩ := frz_st (l := arsOf s.eval (opsOf o.op)) hst
            have hfar := hfar.trans (hsz.far (k := k))
            have hg : (frz (arsOf s.eval (opsOf o.op)) s).gl = G := frz_gl.trans hg
            unfold aop1 at h
            rw [h1, h2] at h
            split at h
            · rename_i p v hp
              obtain ⟨hpp, hk⟩ := h
              obtain ⟨x, hx, hr⟩ := pureOp_sound (w := w) hstz.hr hstz.eval hp hpp
              rw [hx]
              exact hK _ _ ⟨okz, μ, _, hstz.put hr hd, by cases o.dst <;> exact hfar, by cases o.dst <;> exact hg, hk⟩
            · split at h
              · rename_i p v hp' hp
                obtain ⟨hpp, hk⟩ := h
                obtain ⟨nx, w', μ', hx, hs, hr⟩ := heapOp_sound (w := w) hstz.hr hstz.eval hp hpp
                rw [hx]
                have hfar' := hfar.trans (hs.far (k := k))
                rcases hr with ⟨x, rfl, hr⟩ | ⟨rfl, rfl⟩
                · exact hK _ _ ⟨okz, μ', _, (hstz.step hs).put hr hd, by cases o.dst <;> exact hfar', by cases o.dst <;> exact hg, hk⟩
                · exact hK _ _ ⟨okz, μ', _, (hstz.step hs).put .any hd, by cases o.dst <;> exact hfar', by cases o.dst <;> exact hg, hk⟩
              · exact h.elim
end
end Go.Proofs.AE
set_option linter.unusedVariables false
set_option linter.unusedSimpArgs false
namespace Go.Proofs.AE
open Go Go.RowKit
section
variable {P : Program} {G : Nat → AV} {k n : Nat} {w w0 : World} {ok ok0 : Nat → Prop} {μ μ0 : List MB} {hp0 : Hp} {s : S} {a : Act}
theorem yielded_slot {ops : Array Oper} {j t : Nat} (h : (ops[j]?).bind (·.dst) = some t) (tmps : Array Value) : yielded ops tmps j = match tmps[t]? with | some (.bool b) => some b | _ => none := by
  unfold yielded
  rw [h]; rfl
theorem compOp_spec {ops : Array Oper} {o : Oper} {ao : AOp} (h : compOp n ops o = some ao) :
    (ao.dst = o.dst ∧ ao.op = o.op) ∧ (∀ t, o.dst = some t → t < n) ∧
      ((o.guard = none ∧ ao.g = none) ∨ ∃ j b t, o.guard = some (j, b) ∧ ao.g = some (t, b) ∧ (ops[j]?).bind (·.dst) = some t ∧ t < n) := by
  unfold compOp at h
  by_cases hd : dstOk n o.dst = true
  · rw [if_pos hd] at h
    have hd' : ∀ t, o.dst = some t → t < n := by
      intro t ht
      rw [ht] at hd
      simpa [dstOk] using hd
    split at h
    · rename_i hg; cases h; exact ⟨⟨rfl, rfl⟩, hd', .inl ⟨hg, rfl⟩⟩
    · rename_i j b hg
      split at h
      · rename_i t ht
        split at h
        · rename_i hlt; cases h; exact ⟨⟨rfl, rfl⟩, hd', .inr ⟨j, b, t, hg, rfl, ht, hlt⟩⟩
        · cases h
      · cases h
  · rw [if_neg hd] at h; cases h
theorem wanted_of {ops : Array Oper} {o : Oper} (hst : St n w ok μ s a) {j t : Nat} {want : Bool} (hg : o.guard = some (j, want)) (hj : (ops[j]?).bind (·.dst) = some t) (ht : t < n) :
    (∀ b, getF s.fr t = .one (.v (.lit (.bool b))) → Region.wanted o (yielded ops a.tmps) = (b == want)) ∧ (getF s.fr t = .tup [] → Region.wanted o (yielded ops a.tmps) = false) := by
  have hx := hst.fr t
  have hlt : t < a.tmps.size := by rw [hst.size]; exact ht
  have hget : a.tmps[t]? = some (a.tmps.getD t undef) := by simp [Array.getD_eq_getD_getElem?, hlt]
  constructor
  · intro b hb
    rw [hb] at hx
    have hx' := lit_rel hx
    unfold Region.wanted
    rw [hg]
    simp only [yielded_slot hj, hget, hx']
    rfl
  · intro hb
    rw [hb] at hx
    generalize hv : a.tmps.getD t undef = v at hx hget
    cases hx with | tup hx =>
    unfold Region.wanted
    rw [hg]
    simp only [yielded_slot hj, hget]
    rfl
theorem aops_sound {ops : Array Oper} {Q : Exit → Act → World → Prop} : ∀ (l : List Oper) (al : List AOp) (s : S) (a : Act) (w : World) (ok : Nat → Prop) (μ : List MB) (K : S → Prop), compOps n ops l = some al → St n w ok μ s a →
    Far k w0 ok0 μ0 hp0 w ok μ s.hp → s.gl = G → aops P al s K → (∀ a w, Holds k n w0 ok0 μ0 hp0 G K a w → Q .normal a w) → wpList P ops Q l a w := by
  intro l
  induction l with
  | nil =>
    intro al s a w ok μ K hc hst hfar hg h hQ
    cases hc
    exact hQ a w ⟨ok, μ, s, hst, hfar, hg, h⟩
  | cons o l ih =>
    intro al s a w ok μ K hc hst hfar hg h hQ
    unfold compOps at hc
    split at hc
    · rename_i ao al' hao hal
      cases hc
      obtain ⟨h1, h2, h3⟩ := compOp_spec hao
      have step : ∀ s : S, St n w ok μ s a → Far k w0 ok0 μ0 hp0 w ok μ s.hp → s.gl = G → aop P ao s (fun s' => aops P al' s' K) → o.wp P a w (wpList P ops Q l) Q := fun s hst hfar hg h =>
        aop_sound h1 h2 hst hfar hg h (K' := wpList P ops Q l) (fun a' w' ⟨ok', μ', s', q1, q2, q3, q4⟩ => ih al' s' a' w' ok' μ' K hal q1 q2 q3 q4 hQ)
      have skip : ∀ s : S, St n w ok μ s a → Far k w0 ok0 μ0 hp0 w ok μ s.hp → s.gl = G → aops P al' (s.put ao.dst (.tup [])) K → wpList P ops Q l (a.put o.dst undef) w := fun s hst hfar hg h => by
        rw [h1.1] at h
        exact ih al' _ _ w ok μ K hal (hst.put (v := .tup []) (.tup .nil) h2) (by cases o.dst <;> exact hfar) (by cases o.dst <;> exact hg) h hQ
      unfold wpList
      rcases h3 with ⟨hgd, hag⟩ | ⟨j, want, t, hgd, hag, hj, hlt⟩
      · simp only [aops, hag] at h
        rw [if_pos (by simp [Region.wanted, hgd])]
        exact .inl (step s hst hfar hg h)
      · obtain ⟨w1, w2⟩ := wanted_of (o := o) hst hgd hj hlt
        simp only [aops, hag] at h
        split at h
        · rename_i b hb
          have hw := w1 b hb
          by_cases hbw : b = want
          · rw [if_pos (by rw [hw]; simp [hbw])]
            exact .inl (step _ (hst.reput (by rw [hb, hbw]; rfl)) hfar hg (h.1 hbw))
          · rw [if_neg (by rw [hw]; simp [hbw])]
            have hbn : b = !want := by cases b <;> cases want <;> simp_all
            exact skip _ (hst.reput (by rw [hb, hbn]; rfl)) hfar hg (h.2 hbn)
        · rename_i hb
          rw [if_neg (by rw [w2 hb]; simp)]
          exact skip s hst hfar hg h
        · exact h.elim
    · cases hc
end
end Go.Proofs.AE
set_option linter.unusedVariables false
set_option linter.unusedSimpArgs false
namespace Go.Proofs.AE
open Go Go.RowKit
def Out (k : Nat) (hp : Hp) (r0 : AV) (hp' : Hp) (r : AV) : Prop :=
  ∀ (w : World) (ok : Nat → Prop) (μ : List MB) (x : Value), HR w ok μ hp → AVRel w ok μ r0 x → ∃ ok' μ', Far k w ok μ hp w ok' μ' hp' ∧ AVRel w ok' μ' r x
section
variable {P : Program} {G : Nat → AV} {k n : Nat} {w w0 : World} {ok ok0 : Nat → Prop} {μ μ0 : List MB} {hp hp0 : Hp} {s : S} {a : Act}
theorem Weak.refl (k : Nat) (s : S) : Weak k s s :=
  ⟨rfl, fun _ _ ok μ _ h => ⟨ok, μ, h, (Step.refl h.hr).far⟩⟩
theorem Weak.trans {k : Nat} {s s' s'' : S} (h : Weak k s s') (h' : Weak k s' s'') : Weak k s s'' :=
  ⟨h'.1.trans h.1, fun n w ok μ a hst => by
    obtain ⟨ok1, μ1, h1, f1⟩ := h.2 n w ok μ a hst
    obtain ⟨ok2, μ2, h2, f2⟩ := h'.2 n w ok1 μ1 a h1
    exact ⟨ok2, μ2, h2, f1.trans f2⟩⟩
def coeC (hp : Hp) (F ρ : List Nat) : C → C → Prop
  | .any, _ => True
  | .v d, .v d' => d = d'
  | .v (.sl rows), .full rows' => rows = rows'
  | .v (.sl rows), .nil => rows = []
  | .v (.sl rows), .ar i => i ∈ F ∧ ∃ e k, hp[i]? = some (some (.arr e k rows))
  | .ptr i off, .ptr j off' => ρ[i]? = some j ∧ off = off'
  | .eptr i r k off, .eptr j r' k' off' => ρ[i]? = some j ∧ r = r' ∧ k = k' ∧ off = off'
  | .ar i, .ar j => ρ[i]? = some j
  | .sub i k off len c, .sub j k' off' len' c' => ρ[i]? = some j ∧ k = k' ∧ off = off' ∧ len = len' ∧ c = c'
  | .mp i, .mp j => ρ[i]? = some j
  | .vptr cs, .vptr cs' => cs = cs'
  | .full rows, .full rows' => rows = rows'
  | .nil, .nil => True
  | _, _ => False
def coeCs (hp : Hp) (F ρ : List Nat) : List C → List C → Prop
  | [], [] => True
  | c :: cs, d :: ds => coeC hp F ρ c d ∧ coeCs hp F ρ cs ds
  | _, _ => False
mutual
def coeAV (hp : Hp) (F ρ : List Nat) : AV → AV → Prop
  | .any, _ => True
  | .one c, .one d => coeC hp F ρ c d
  | .agg cs, .agg ds => coeCs hp F ρ cs ds
  | .fn f a b, .fn g c d => f = g ∧ coeCs hp F ρ a c ∧ coeCs hp F ρ b d
  | .tup l, .tup l' => coeAVs hp F ρ l l'
  | _, _ => False
def coeAVs (hp : Hp) (F ρ : List Nat) : List AV → List AV → Prop
  | [], [] => True
  | v :: l, u :: l' => coeAV hp F ρ v u ∧ coeAVs hp F ρ l l'
  | _, _ => False
end
def coeB (hp : Hp) (F ρ : List Nat) : Blk → Blk → Prop
  | .box t cs, .box t' ds => t = t' ∧ coeCs hp F ρ cs ds
  | .arr e k rows, .arr e' k' rows' => e = e' ∧ k = k' ∧ rows = rows'
  | .arj e k n rows, .arj e' k' n' rows' => e = e' ∧ k = k' ∧ n = n' ∧ rows = rows'
  | .mp t es, .mp t' es' => t = t' ∧ es = es'
  | _, _ => False
def coeF (hp : Hp) (F ρ : List Nat) (fr : List (Nat × AV)) : List (Nat × AV) → Prop
  | [] => True
  | (t, v) :: r => coeAV hp F ρ v (getF fr t) ∧ coeF hp F ρ fr r
def coeH (hp : Hp) (F ρ : List Nat) : Nat → Hp → Prop
  | _, [] => True
  | i, none :: r => coeH hp F ρ (i + 1) r
  | i, some b :: r => (∃ j b', ρ[i]? = some j ∧ hp[j]? = some (some b') ∧ coeB hp F ρ b b') ∧ coeH hp F ρ (i + 1) r
structure View (w : World) (ok : Nat → Prop) (μ : List MB) (hp : Hp) (F ρ : List Nat) (ok' : Nat → Prop) (μ' : List MB) : Prop where
  hr : HR w ok μ hp
  hμ : ∀ (i j : Nat) m, ρ[i]? = some j → μ[j]? = some m → μ'[i]? = some m
  oks : ∀ b, ok b → ok' b
  okF : ∀ (i : Nat) m b, i ∈ F → (∃ blk, hp[i]? = some (some blk)) → μ[i]? = some m → m.own = some b → ok' b
theorem coeC_rel {hp : Hp} {F ρ : List Nat} {ok' : Nat → Prop} {μ' : List MB} (hv : View w ok μ hp F ρ ok' μ') {c d : C} {x : Value} (h : coeC hp F ρ c d) (hd : CRel w ok μ d x) : CRel w ok' μ' c x := by
  unfold coeC at h
  split at h
  · exact .any hd.oneCell
  · subst h; cases hd with | v hd => exact .v (hd.mono (fun _ _ => rfl) hv.oks)
  · subst h; cases hd with | full hd => exact .v (hd.mono (fun _ _ => rfl) hv.oks)
  · subst h; cases hd with | nil => exact .v .nil
  · obtain ⟨hF, e, kk, hb⟩ := h
    cases hd with | ar hμ h1 =>
    obtain ⟨m, hm, hbr⟩ := hv.hr.rel _ _ hb
    rw [hμ] at hm; cases hm
    exact .v (vrel_of_arr hbr hv.oks fun b hb' => hv.okF _ _ b hF ⟨_, hb⟩ hμ hb')
  · obtain ⟨h1, rfl⟩ := h; cases hd with | ptr _ hd => exact .ptr _ (hv.hμ _ _ _ h1 hd)
  · obtain ⟨h1, rfl, rfl, rfl⟩ := h; cases hd with | eptr _ _ _ hd => exact .eptr _ _ _ (hv.hμ _ _ _ h1 hd)
  · cases hd with | ar hd h1 => exact .ar (hv.hμ _ _ _ h hd) h1
  · obtain ⟨h1, rfl, rfl, rfl, rfl⟩ := h; cases hd with | sub _ _ _ _ hd hs => exact .sub _ _ _ _ (hv.hμ _ _ _ h1 hd) hs
  · cases hd with | mp hd => exact .mp (hv.hμ _ _ _ h hd)
  · subst h; exact ((hd.mono (fun _ _ => rfl) hv.oks : CRel w ok' μ (.vptr _) x) |> fun h => by cases h with | vptr b off cv a b c => exact .vptr _ _ _ a b c)
  · subst h; cases hd with | full hd => exact .full (hd.mono (fun _ _ => rfl) hv.oks)
  · cases hd with | nil => exact .nil
  · exact h.elim
theorem coeCs_rel {hp : Hp} {F ρ : List Nat} {ok' : Nat → Prop} {μ' : List MB} (hv : View w ok μ hp F ρ ok' μ') : ∀ {cs ds : List C} {xs : List Value}, coeCs hp F ρ cs ds → All2 (CRel w ok μ) ds xs → All2 (CRel w ok' μ') cs xs
  | [], [], _, _, .nil => .nil
  | _ :: _, _ :: _, _, h, .cons hc hd => .cons (coeC_rel hv h.1 hc) (coeCs_rel hv h.2 hd)
  | [], _ :: _, _, h, _ => h.elim
  | _ :: _, [], _, h, _ => h.elim
mutual
theorem coeAV_rel {hp : Hp} {F ρ : List Nat} {ok' : Nat → Prop} {μ' : List MB} (hv : View w ok μ hp F ρ ok' μ') : ∀ {v u : AV} {x : Value}, coeAV hp F ρ v u → AVRel w ok μ u x → AVRel w ok' μ' v x
  | .any, _, _, _, _ => .any
  | .one _, .one _, _, h, .one hd => .one (coeC_rel hv h hd)
  | .agg _, .agg _, _, h, .agg hd => .agg (coeCs_rel hv h hd)
  | .fn _ _ _, .fn _ _ _, _, h, .fn a b => by obtain ⟨rfl, h1, h2⟩ := h; exact .fn (coeCs_rel hv h1 a) (coeCs_rel hv h2 b)
  | .tup _, .tup _, _, h, .tup hd => .tup (coeAVs_rel hv h hd)
  | .one _, .agg _, _, h, _ | .one _, .tup _, _, h, _ | .one _, .fn _ _ _, _, h, _ | .one _, .any, _, h, _ => h.elim
  | .agg _, .one _, _, h, _ | .agg _, .tup _, _, h, _ | .agg _, .fn _ _ _, _, h, _ | .agg _, .any, _, h, _ => h.elim
  | .tup _, .one _, _, h, _ | .tup _, .agg _, _, h, _ | .tup _, .fn _ _ _, _, h, _ | .tup _, .any, _, h, _ => h.elim
  | .fn _ _ _, .one _, _, h, _ | .fn _ _ _, .agg _, _, h, _ | .fn _ _ _, .tup _, _, h, _ | .fn _ _ _, .any, _, h, _ => h.elim
theorem coeAVs_rel {hp : Hp} {F ρ : List Nat} {ok' : Nat → Prop} {μ' : List MB} (hv : View w ok μ hp F ρ ok' μ') : ∀ {l l' : List AV} {xs : List Value}, coeAVs hp F ρ l l' → AVRels w ok μ l' xs → AVRels w ok' μ' l xs
  | [], [], _, _, .nil => .nil
  | _ :: _, _ :: _, _, h, .cons hc hd => .cons (coeAV_rel hv h.1 hc) (coeAVs_rel hv h.2 hd)
  | [], _ :: _, _, h, _ => h.elim
  | _ :: _, [], _, h, _ => h.elim
end
theorem coeB_rel {hp : Hp} {F ρ : List Nat} {ok' : Nat → Prop} {μ' : List MB} (hv : View w ok μ hp F ρ ok' μ') {b b' : Blk} {m : MB} (h : coeB hp F ρ b b') (hd : BRel w ok μ b' m) : BRel w ok' μ' b m := by
  unfold coeB at h
  split at h
  · obtain ⟨rfl, h1⟩ := h
    cases m with
    | box q => obtain ⟨xs, g1, g2⟩ := hd; exact ⟨xs, g1, coeCs_rel hv h1 g2⟩
    | arr => exact hd.elim
  · obtain ⟨rfl, rfl, rfl⟩ := h
    cases m with
    | box q => exact hd.elim
    | arr x => obtain ⟨xs, g1, g2, g3⟩ := hd; exact ⟨xs, g1, g2.mono fun _ _ h => h.mono (fun _ _ => rfl) hv.oks, g3⟩
  · obtain ⟨rfl, rfl, rfl, rfl⟩ := h
    exact BRel.mono (fun _ _ => rfl) hv.oks (fun _ _ h => h) hd (fun _ _ => rfl) |> fun h => by
      cases m with
      | box => exact h.elim
      | arr x => exact h
  · obtain ⟨rfl, rfl⟩ := h
    cases m with
    | box q => exact hd
    | arr x => exact hd.elim
  · exact h.elim
theorem coeF_get {hp : Hp} {F ρ : List Nat} {fr' : List (Nat × AV)} : ∀ {fr : List (Nat × AV)}, coeF hp F ρ fr' fr → ∀ t, coeAV hp F ρ (getF fr t) (getF fr' t)
  | [], _, t => by simp [getF, coeAV]
  | (u, v) :: r, h, t => by
    simp only [getF]
    by_cases hu : u = t
    · subst hu; rw [if_pos rfl]; exact h.1
    · rw [if_neg hu]; exact coeF_get h.2 t
theorem coeH_get {hp0 : Hp} {F ρ : List Nat} : ∀ {hp : Hp} {i : Nat}, coeH hp0 F ρ i hp → ∀ (q : Nat) b, hp[q]? = some (some b) → ∃ j b', ρ[i + q]? = some j ∧ hp0[j]? = some (some b') ∧ coeB hp0 F ρ b b'
  | [], _, _, q, b, h => by simp at h
  | none :: r, i, h, q, b, hq => by
    cases q with
    | zero => simp at hq
    | succ q =>
      have := coeH_get (i := i + 1) (hp := r) h q b (by simpa using hq)
      rwa [show i + 1 + q = i + (q + 1) by omega] at this
  | some c :: r, i, h, q, b, hq => by
    cases q with
    | zero => simp at hq; subst hq; exact h.1
    | succ q =>
      have := coeH_get (i := i + 1) (hp := r) h.2 q b (by simpa using hq)
      rwa [show i + 1 + q = i + (q + 1) by omega] at this
theorem getElem?_nodup {l : List Nat} (h : l.Nodup) {i j a : Nat} (hi : l[i]? = some a) (hj : l[j]? = some a) : i = j := by
  have h1 := lt_of_getElem? hi
  have h2 := lt_of_getElem? hj
  rw [List.getElem?_eq_getElem h1] at hi
  rw [List.getElem?_eq_getElem h2] at hj
  exact (List.getElem_inj h).1 (by rw [Option.some.inj hi, Option.some.inj hj])
theorem view_far {k : Nat} {hp hp' : Hp} {F ρ : List Nat} (hr : HR w ok μ hp) (hlen : ρ.length = hp'.length) (hnd : ρ.Nodup) (hFρ : ∀ i, i ∈ F → i ∉ ρ) (hk : ∀ i, i < k → i < hp.length → ρ[i]? = some i) (hh : coeH hp F ρ 0 hp') :
    ∃ ok' μ', View w ok μ hp F ρ ok' μ' ∧ Far k w ok μ hp w ok' μ' hp' := by
  have hμ : ∀ (i j : Nat) m, ρ[i]? = some j → μ[j]? = some m → (ρ.map fun j => μ.getD j (.box 0))[i]? = some m := by
    intro i j m h1 h2
    rw [List.getElem?_map, h1]
    simp [List.getD, h2]
  let okF : Nat → Prop := fun b => ∃ (i : Nat) (blk : Blk) (m : MB), i ∈ F ∧ hp[i]? = some (some blk) ∧ μ[i]? = some m ∧ m.own = some b
  have hinv : ∀ (i : Nat) b, hp'[i]? = some (some b) → ∃ j b', ρ[i]? = some j ∧ hp[j]? = some (some b') ∧ coeB hp F ρ b b' := by
    intro i b h; have := coeH_get hh i b h; rwa [Nat.zero_add] at this
  have hm : ∀ (i j : Nat) m, ρ[i]? = some j → (∃ b, hp[j]? = some (some b)) → (ρ.map fun j => μ.getD j (.box 0))[i]? = some m → μ[j]? = some m := by
    intro i j m h1 ⟨b, hb⟩ h2
    obtain ⟨q, hq, _⟩ := hr.rel j b hb
    rw [List.getElem?_map, h1] at h2
    simp [List.getD, hq] at h2
    rw [hq, h2]
  have hown : ∀ b, OwnL hp' (ρ.map fun j => μ.getD j (.box 0)) b → ∃ (j : Nat) (blk : Blk) (m : MB), j ∈ ρ ∧ hp[j]? = some (some blk) ∧ μ[j]? = some m ∧ m.own = some b := by
    rintro b ⟨i, blk, m, h1, h2, h3⟩
    obtain ⟨j, b', g1, g2, g3⟩ := hinv i blk h1
    exact ⟨j, b', m, List.mem_of_getElem? g1, g2, hm i j m g1 ⟨b', g2⟩ h2, h3⟩
  have hownL : ∀ b, OwnL hp' (ρ.map fun j => μ.getD j (.box 0)) b → OwnL hp μ b := fun b h => let ⟨j, blk, m, _, h2, h3, h4⟩ := hown b h; ⟨j, blk, m, h2, h3, h4⟩
  have hv : View w ok μ hp F ρ (fun b => ok b ∨ okF b) (ρ.map fun j => μ.getD j (.box 0)) := ⟨hr, hμ, fun b h => .inl h, fun i m b h1 ⟨blk, h2⟩ h3 h4 => .inr ⟨i, blk, m, h1, h2, h3, h4⟩⟩
  refine ⟨_, _, hv, ⟨⟨by simp [hlen], ?_, ?_, ?_⟩, rfl, rfl, rfl, Nat.le_refl _, fun _ _ _ => rfl, fun _ h => .inl h, ?_, fun b h => .inr (hownL b h), ?_⟩⟩
  · intro i b hb
    obtain ⟨j, b', g1, g2, g3⟩ := hinv i b hb
    obtain ⟨m, q1, q2⟩ := hr.rel j b' g2
    exact ⟨m, hμ i j m g1 q1, coeB_rel hv g3 q2⟩
  · intro i j b c m q kk hij hb hc hm1 hm2 ho
    obtain ⟨i', b', g1, g2, _⟩ := hinv i b hb
    obtain ⟨j', c', e1, e2, _⟩ := hinv j c hc
    have hne : i' ≠ j' := fun e => hij (getElem?_nodup hnd g1 (e ▸ e1))
    exact hr.inj i' j' b' c' m q kk hne g2 e2 (hm i i' m g1 ⟨b', g2⟩ hm1) (hm j j' q e1 ⟨c', e2⟩ hm2) ho
  · rintro kk (hkk | ⟨i, blk, m, h1, h2, h3, h4⟩)
    · refine ⟨(hr.keep hkk).1, fun i b m h1 h2 h3 => (hr.keep hkk).2 (hownL kk ⟨i, b, m, h1, h2, h3⟩)⟩
    · refine ⟨hr.own_lt ⟨i, blk, m, h2, h3, h4⟩, fun i' b' m' g1 g2 g3 => ?_⟩
      obtain ⟨j, c, q, e0, e1, e2, e3⟩ := hown kk ⟨i', b', m', g1, g2, g3⟩
      exact hr.inj i j blk c m q kk (fun e => hFρ i h1 (e ▸ e0)) h2 e1 h3 e2 h4 e3
  · rintro b (h | ⟨i, blk, m, h1, h2, h3, h4⟩)
    · exact .inl h
    · exact .inr (.inr ⟨i, blk, m, h2, h3, h4⟩)
  · intro i m hi hm1
    exact hμ i i m (hk i hi (by rw [← hr.len]; exact lt_of_getElem? hm1)) hm1
theorem weak_of {k : Nat} {s s' : S} (F ρ : List Nat) (hgl : s'.gl = s.gl) (hlen : ρ.length = s'.hp.length) (hnd : ρ.Nodup) (hFρ : ∀ i, i ∈ F → i ∉ ρ) (hk : ∀ i, i < k → i < s.hp.length → ρ[i]? = some i)
    (hf : coeF s.hp F ρ s.fr s'.fr) (hh : coeH s.hp F ρ 0 s'.hp) : Weak k s s' := by
  refine ⟨hgl, fun n w ok μ a hst => ?_⟩
  obtain ⟨ok', μ', hv, hfar⟩ := view_far hst.hr hlen hnd hFρ hk hh
  exact ⟨ok', μ', ⟨hfar.hr, hst.size, hst.defers, fun t => coeAV_rel hv (coeF_get hf t) (hst.fr t), fun g ν => by rw [hgl]; exact (hst.gl g ν).mono (fun _ _ => rfl) hv.oks⟩, hfar⟩
theorem out_of {k : Nat} {hp hp' : Hp} {r0 r : AV} (F ρ : List Nat) (hlen : ρ.length = hp'.length) (hnd : ρ.Nodup) (hFρ : ∀ i, i ∈ F → i ∉ ρ) (hk : ∀ i, i < k → i < hp.length → ρ[i]? = some i)
    (hf : coeAV hp F ρ r r0) (hh : coeH hp F ρ 0 hp') : Out k hp r0 hp' r := by
  intro w ok μ x hr hx
  obtain ⟨ok', μ', hv, hfar⟩ := view_far hr hlen hnd hFρ hk hh
  exact ⟨ok', μ', hfar, coeAV_rel hv hf hx⟩
theorem weak_nil {k : Nat} {s : S} (t e m : Nat) (h : getF s.fr t = .one .nil) (hm : 0 < m) : Weak k s { s with fr := (t, .one (.ar s.hp.length)) :: s.fr, hp := s.hp ++ [some (.arr e m [])] } := by
  refine ⟨rfl, fun n w ok μ a hst => ?_⟩
  have hv : a.tmps.getD t undef = .slice none 0 0 := by
    have := hst.fr t
    rw [h] at this
    generalize a.tmps.getD t undef = x at this
    cases this with | one hc => cases hc; rfl
  obtain ⟨s1, s2⟩ := arr_sound (w' := w) (e := e) (k := m) (rows := []) (xs := []) (x := .slice none 0 0) hst.hr rfl rfl rfl (Nat.le_refl _) (fun _ _ => rfl) (World.ownsRow_nil w 0 e m) .nil (fun _ h => by simp at h) (fun b hb => by cases hb)
  refine ⟨ok, _, ⟨s1.hr, hst.size, hst.defers, fun u => ?_, fun g ν => hst.gl g ν⟩, s1.far⟩
  simp only [getF]
  by_cases hu : t = u
  · subst hu; rw [if_pos rfl, hv]; exact s2
  · rw [if_neg hu]; exact s1.av hst.hr (hst.fr u)
end
end Go.Proofs.AE
set_option linter.unusedVariables false
set_option linter.unusedSimpArgs false
namespace Go.Proofs.AE
open Go Go.RowKit
section
variable {P : Program} {w : World} {ok : Nat → Prop} {μ : List MB} {hp hp' : Hp}
theorem idC_coe {hp : Hp} {F ρ : List Nat} : ∀ {c : C}, idC c = true → coeC hp F ρ c c
  | .v d, _ => by cases d <;> simp [coeC]
  | .vptr _, _ => rfl
  | .full _, _ => rfl
  | .nil, _ => trivial
theorem idCs_coe {hp : Hp} {F ρ : List Nat} : ∀ {l : List C}, l.all idC = true → coeCs hp F ρ l l
  | [], _ => trivial
  | c :: l, h => by
    simp only [List.all_cons, Bool.and_eq_true] at h
    exact ⟨idC_coe h.1, idCs_coe h.2⟩
mutual
theorem idAV_coe {hp : Hp} {F ρ : List Nat} : ∀ {v : AV}, idAV v = true → coeAV hp F ρ v v
  | .one _, h => idC_coe h
  | .agg _, h => idCs_coe h
  | .fn _ _ _, h => by
    simp only [idAV, Bool.and_eq_true] at h
    exact ⟨rfl, idCs_coe h.1, idCs_coe h.2⟩
  | .tup _, h => idAVs_coe h
  | .any, _ => trivial
theorem idAVs_coe {hp : Hp} {F ρ : List Nat} : ∀ {l : List AV}, idAVs l = true → coeAVs hp F ρ l l
  | [], _ => trivial
  | v :: l, h => by
    simp only [idAVs, Bool.and_eq_true] at h
    exact ⟨idAV_coe h.1, idAVs_coe h.2⟩
end
theorem nzC_coe {F : List Nat} {c : C} (hF : ∀ i, c = .ar i → i ∈ F) (h : idC (nzC hp c) = true) : coeC hp F [] (nzC hp c) c := by
  cases c with
  | ar i =>
    simp only [nzC] at h ⊢
    split at h
    · rename_i e k rows hb
      simp only [hb, coeC]
      exact ⟨hF i rfl, e, k, rfl⟩
    · simp [idC] at h
  | nil => simp [nzC, coeC]
  | full rows => simp [nzC, coeC]
  | v d => cases d <;> simp [nzC, coeC]
  | vptr cs => simp [nzC, coeC]
  | any => simp [nzC, idC] at h
  | ptr => simp [nzC, idC] at h
  | eptr => simp [nzC, idC] at h
  | sub => simp [nzC, idC] at h
  | mp => simp [nzC, idC] at h
theorem nzCs_coe {F : List Nat} : ∀ {l : List C}, (∀ i ∈ arsCs l, i ∈ F) → (nzCs hp l).all idC = true → coeCs hp F [] (nzCs hp l) l
  | [], _, _ => trivial
  | c :: l, hF, h => by
    simp only [nzCs, List.all_cons, Bool.and_eq_true] at h
    refine ⟨nzC_coe (fun i e => hF i (by subst e; simp [arsCs])) h.1, nzCs_coe (fun i hi => hF i (by cases c <;> simp [arsCs, hi])) h.2⟩
theorem nzAV_coe {F : List Nat} {v : AV} (hF : ∀ i ∈ arsAV v, i ∈ F) (h : idAV (nzAV hp v) = true) : coeAV hp F [] (nzAV hp v) v := by
  cases v with
  | one c => exact nzC_coe (fun i e => hF i (by subst e; simp [arsAV])) h
  | agg cs => exact nzCs_coe hF h
  | tup l => exact idAV_coe (v := .tup l) h
  | fn f a b => exact idAV_coe (v := .fn f a b) h
  | any => trivial
theorem dropF_step : ∀ (F : List Nat) {hp : Hp} {ok : Nat → Prop}, HR w ok μ hp → ∃ ok', Step w ok μ hp w ok' μ (dropF F hp) ∧ ∀ i ∈ F, ∀ blk m b, hp[i]? = some (some blk) → μ[i]? = some m → m.own = some b → ok' b
  | [], hp, ok, hr => ⟨ok, Step.refl hr, fun i h => by simp at h⟩
  | i :: l, hp, ok, hr => by
    by_cases hi : ∃ blk, hp[i]? = some (some blk)
    · obtain ⟨blk, hb⟩ := hi
      obtain ⟨m, hm, _⟩ := hr.rel i blk hb
      have s1 := step_freeze hr ⟨blk, hb⟩ hm
      obtain ⟨ok', s2, h2⟩ := dropF_step l s1.hr
      refine ⟨ok', s1.trans s2, fun j hj blk' m' b h3 h4 h5 => ?_⟩
      by_cases hij : j = i
      · subst hij; rw [hm] at h4; cases h4; exact s2.oksub b (.inr h5)
      · rcases List.mem_cons.1 hj with e | hj
        · exact absurd e hij
        · exact h2 j hj blk' m' b (by rw [List.getElem?_set_ne (fun e => hij e.symm)]; exact h3) h4 h5
    · have s1 := step_drop hr i
      obtain ⟨ok', s2, h2⟩ := dropF_step l s1.hr
      refine ⟨ok', s1.trans s2, fun j hj blk' m' b h3 h4 h5 => ?_⟩
      by_cases hij : j = i
      · subst hij; exact absurd ⟨blk', h3⟩ hi
      · rcases List.mem_cons.1 hj with e | hj
        · exact absurd e hij
        · exact h2 j hj blk' m' b (by rw [List.getElem?_set_ne (fun e => hij e.symm)]; exact h3) h4 h5
theorem cells_id {v : AV} {cs : List C} {vs : List V} (h : cellsAV v = some cs) (hv : vsOf cs = some vs) : idAV v = true := by
  have key : ∀ {cs : List C} {vs : List V}, vsOf cs = some vs → cs.all idC = true := by
    intro cs
    induction cs with
    | nil => intro _ _; rfl
    | cons c r ih =>
      intro vs h
      cases c <;> simp only [vsOf] at h <;> first | (cases h; done) | skip
      all_goals
        obtain ⟨vs', h', _⟩ := Option.map_eq_some_iff.1 h
        simp only [List.all_cons, idC, Bool.true_and]
        exact ih h'
  cases v with
  | one c => cases h; have := key hv; simpa [idAV] using this
  | agg l => cases h; exact key hv
  | fn f a b => (cases h; try cases hv)
  | tup l => cases h
  | any => rfl
theorem partRows_id {k : Nat} : ∀ {l : List (Nat × AV)} {i : Nat} {rows : List (List V)}, partRows k i l = some rows → ∀ p ∈ l, idAV p.2 = true
  | [], _, _, _, p, hp => by cases hp
  | (j, v) :: r, i, rows, h, p, hp => by
    unfold partRows at h
    split at h
    · split at h
      · rename_i cs hcs
        split at h
        · split at h
          · rename_i a b ha hb
            rcases List.mem_cons.1 hp with rfl | hp
            · exact cells_id hcs ha
            · exact partRows_id hb p hp
          · cases h
        · cases h
      · cases h
    · cases h
theorem arsOf_mem {ev : Operand → AV} : ∀ {l : List Operand} {x : Operand} {i : Nat}, x ∈ l → i ∈ arsAV (ev x) → i ∈ arsOf ev l
  | y :: l, x, i, hx, hi => by
    unfold arsOf
    rcases List.mem_cons.1 hx with rfl | hx
    · exact List.mem_append_left _ hi
    · exact List.mem_append_right _ (arsOf_mem hx hi)
theorem frzOp_as {ev : Operand → AV} {op : Op} {p : Prop} {v : AV} (hr : HR w ok μ hp) {ρ : Operand → Value} (hev : ∀ x, AVRel w ok μ (ev x) (ρ x)) (h : frzOp P hp ev op = some (p, v, hp')) :
    ∃ ok' hp1 ev', Step w ok μ hp w ok' μ hp1 ∧ (∀ x, AVRel w ok' μ (ev' x) (ρ x)) ∧ heapOp P hp1 ev' op = some (p, v, hp') := by
  unfold frzOp at h
  split at h
  · rename_i t len parts
    split at h
    · rename_i e he
      split at h
      · rename_i j hj
        split at h
        · rename_i hc
          obtain ⟨rows, hrows, hx⟩ := Option.map_eq_some_iff.1 h
          cases hx
          obtain ⟨ok', s1, h1⟩ := dropF_step (arsOf ev (parts.toList.map (·.2))) hr
          have hv : View w ok μ hp (arsOf ev (parts.toList.map (·.2))) [] ok' [] := ⟨hr, fun i j m h => by simp at h, s1.oksub, fun i m b hi ⟨blk, hb⟩ h3 h4 => h1 i hi blk m b hb h3 h4⟩
          have hid := partRows_id hrows
          classical
          refine ⟨ok', _, fun x => if x ∈ parts.toList.map (·.2) then nzAV hp (ev x) else .any, s1, fun x => ?_, ?_⟩
          · by_cases hx : x ∈ parts.toList.map (·.2)
            · show AVRel w ok' μ (if x ∈ parts.toList.map (·.2) then nzAV hp (ev x) else .any) (ρ x)
              rw [if_pos hx]
              obtain ⟨q, hq, rfl⟩ := List.mem_map.1 hx
              have hi := hid (q.1, nzAV hp (ev q.2)) (List.mem_map.2 ⟨q, hq, rfl⟩)
              exact (coeAV_rel hv (nzAV_coe (fun i hi => arsOf_mem hx hi) hi) (hev q.2)).ext (fun i m h => by simp at h)
            · show AVRel w ok' μ (if x ∈ parts.toList.map (·.2) then nzAV hp (ev x) else .any) (ρ x)
              rw [if_neg hx]; exact .any
          · have hm : (parts.toList.map fun (k, x) => (k, (if x ∈ parts.toList.map (·.2) then nzAV hp (ev x) else .any))) = parts.toList.map fun (k, x) => (k, nzAV hp (ev x)) := by
              refine List.map_congr_left fun q hq => ?_
              obtain ⟨k, x⟩ := q
              simp only
              rw [if_pos (List.mem_map.2 ⟨(k, x), hq, rfl⟩)]
            simp only [heapOp, he, hj]
            rw [if_pos hc, hm, hrows]
            rfl
        · cases h
      · cases h
    · cases h
  · cases h
theorem frzOp_congr {ev ev' : Operand → AV} {op : Op} (h : ∀ x ∈ op.operands, ev x = ev' x) : frzOp P hp ev op = frzOp P hp ev' op := by
  cases op <;> try rfl
  rename_i t len parts
  have hm : ∀ q ∈ parts.toList, ev q.2 = ev' q.2 := fun q hq => h q.2 (by simp only [Op.operands]; simp; exact ⟨q.1, by simpa using hq⟩)
  have e1 : (parts.toList.map fun (k, x) => (k, nzAV hp (ev x))) = parts.toList.map fun (k, x) => (k, nzAV hp (ev' x)) := List.map_congr_left fun q hq => by simp only; rw [hm q hq]
  have e2 : ∀ l : List Operand, (∀ x ∈ l, ev x = ev' x) → arsOf ev l = arsOf ev' l := by
    intro l
    induction l with
    | nil => intro _; rfl
    | cons x l ih => intro hl; unfold arsOf; rw [hl x (List.mem_cons_self ..), ih fun y hy => hl y (List.mem_cons_of_mem _ hy)]
  have e3 : arsOf ev (parts.toList.map (·.2)) = arsOf ev' (parts.toList.map (·.2)) := e2 _ fun x hx => by
    obtain ⟨q, hq, rfl⟩ := List.mem_map.1 hx
    exact hm q hq
  unfold frzOp
  simp only [e1, e3]
end
end Go.Proofs.AE
set_option linter.unusedVariables false
set_option linter.unusedSimpArgs false
namespace Go.Proofs.AE
open Go Go.RowKit
theorem ancStep_spec {acc : List Nat} {o : Oper} {j : Nat} (h : (ancStep acc o).testBit j = true) : ∃ e ∈ edgesOf o, e = j ∨ (acc.getD e 0).testBit j = true := by
  unfold ancStep at h
  have key : ∀ (l : List Nat) (s : Nat), (l.foldl (fun s j => s ||| 2 ^ j ||| acc.getD j 0) s).testBit j = true → s.testBit j = true ∨ ∃ e ∈ l, e = j ∨ (acc.getD e 0).testBit j = true := by
    intro l
    induction l with
    | nil => intro s h; exact .inl h
    | cons e l ih =>
      intro s h
      rcases ih _ h with h1 | ⟨e', he, h1⟩
      · simp only [Nat.testBit_or, Bool.or_eq_true, Nat.testBit_two_pow, decide_eq_true_eq] at h1
        rcases h1 with (h1 | h1) | h1
        · exact .inl h1
        · exact .inr ⟨e, by simp, .inl h1⟩
        · exact .inr ⟨e, by simp, .inr h1⟩
      · exact .inr ⟨e', by simp [he], h1⟩
  rcases key _ _ h with h1 | h1
  · simp at h1
  · exact h1
theorem ancs_spec : ∀ (l : List Oper) (acc : List Nat) (pre : List Oper), acc.length = pre.length →
    (∀ (i j : Nat), (acc.getD i 0).testBit j = true → ∃ o, pre[i]? = some o ∧ ∃ e ∈ edgesOf o, e = j ∨ (acc.getD e 0).testBit j = true) →
    ∀ (i j : Nat), ((ancs l acc).getD i 0).testBit j = true → ∃ o, (pre ++ l)[i]? = some o ∧ ∃ e ∈ edgesOf o, e = j ∨ ((ancs l acc).getD e 0).testBit j = true := by
  intro l
  induction l with
  | nil => intro acc pre hl h i j hij; simpa [ancs] using h i j hij
  | cons o l ih =>
    intro acc pre hl h i j hij
    have hle : ∀ e, (acc.getD e 0).testBit j = true → ∀ x : Nat, ((acc ++ [x]).getD e 0).testBit j = true := by
      intro e he x
      by_cases hlt : e < acc.length
      · rwa [List.getD_eq_getElem?_getD, List.getElem?_append_left hlt, ← List.getD_eq_getElem?_getD]
      · rw [List.getD_eq_getElem?_getD, List.getElem?_eq_none (by omega)] at he; simp at he
    have := ih (acc ++ [ancStep acc o]) (pre ++ [o]) (by simp [hl]) ?_ i j (by simpa [ancs] using hij)
    · simpa [ancs] using this
    · intro i j hij
      have hle : ∀ e, (acc.getD e 0).testBit j = true → ((acc ++ [ancStep acc o]).getD e 0).testBit j = true := by
        intro e he
        by_cases hlt : e < acc.length
        · rwa [List.getD_eq_getElem?_getD, List.getElem?_append_left hlt, ← List.getD_eq_getElem?_getD]
        · rw [List.getD_eq_getElem?_getD, List.getElem?_eq_none (by omega)] at he; simp at he
      by_cases hi : i < acc.length
      · rw [List.getD_eq_getElem?_getD, List.getElem?_append_left hi, ← List.getD_eq_getElem?_getD] at hij
        obtain ⟨o', h1, e, h2, h3⟩ := h i j hij
        exact ⟨o', by rw [List.getElem?_append_left (by omega)]; exact h1, e, h2, h3.imp id (hle e)⟩
      · by_cases hi2 : i = acc.length
        · subst hi2
          rw [List.getD_eq_getElem?_getD, List.getElem?_append_right (Nat.le_refl _)] at hij
          simp only [Nat.sub_self, List.getElem?_cons_zero, Option.getD_some] at hij
          obtain ⟨e, h2, h3⟩ := ancStep_spec hij
          exact ⟨o, by rw [hl]; simp, e, h2, h3.imp id (hle e)⟩
        · rw [List.getD_eq_getElem?_getD, List.getElem?_eq_none (by simp; omega)] at hij; simp at hij
theorem ancT_spec {ops : Array Oper} {i j : Nat} (h : ancB (ancT ops) i j = true) : ∃ o, ops[i]? = some o ∧ ∃ e ∈ edgesOf o, e = j ∨ ancB (ancT ops) e j = true := by
  have := ancs_spec ops.toList [] [] rfl (fun i j h => by simp at h) i j h
  simpa [ancB, ancT] using this
theorem acyc_spec {ops : Array Oper} (h : acyc ops = true) {i : Nat} {o : Oper} (ho : ops[i]? = some o) {e : Nat} (he : e ∈ edgesOf o) : e < i := by
  unfold acyc at h
  rw [List.all_eq_true] at h
  have hm : (o, i) ∈ ops.toList.zipIdx := by
    rw [List.mem_zipIdx_iff_getElem?]; simpa using ho
  have := h _ hm
  simp only [List.all_eq_true, decide_eq_true_eq] at this
  exact this e he
theorem closed_anc {ops : Array Oper} (hac : acyc ops = true) {X : Nat → Prop} (hX : ∀ i o e, X i → ops[i]? = some o → e ∈ edgesOf o → X e) : ∀ (i j : Nat), X i → ancB (ancT ops) i j = true → X j := by
  intro i
  induction i using Nat.strongRecOn with
  | _ i ih =>
    intro j hi h
    obtain ⟨o, ho, e, he, h1⟩ := ancT_spec h
    have hlt := acyc_spec hac ho he
    have hxe := hX i o e hi ho he
    rcases h1 with rfl | h1
    · exact hxe
    · exact ih e hlt j hxe h1
def Topo (ops : Array Oper) : (X : Nat → Prop) → List Nat → Prop
  | _, [] => True
  | X, i :: r => ¬ X i ∧ (∃ o, ops[i]? = some o ∧ ∀ e ∈ edgesOf o, X e) ∧ Topo ops (fun j => X j ∨ j = i) r
theorem topo_congr {ops : Array Oper} : ∀ {l : List Nat} {X Y : Nat → Prop}, (∀ j, X j ↔ Y j) → Topo ops X l → Topo ops Y l
  | [], _, _, _, _ => trivial
  | i :: r, X, Y, h, ⟨h1, ⟨o, h2, h3⟩, h4⟩ => ⟨fun hy => h1 ((h i).2 hy), ⟨o, h2, fun e he => (h e).1 (h3 e he)⟩, topo_congr (fun j => or_congr (h j) Iff.rfl) h4⟩
def unlisted (ops : Array Oper) (listed : Array Bool) : Nat := ((List.range ops.size).filter fun i => !listed.getD i true).length
theorem go_topo {ops : Array Oper} (hac : acyc ops = true) : ∀ (fuel t : Nat) (listed : Array Bool), listed.size = ops.size → unlisted ops listed ≤ fuel →
    Topo ops (fun j => listed.getD j false = true) (Region.linearise.go .any ops fuel t listed []) ∧ ∀ j, j < ops.size → listed.getD j false = true ∨ j ∈ Region.linearise.go .any ops fuel t listed [] := by
  intro fuel
  induction fuel with
  | zero =>
    intro t listed hs hu
    refine ⟨trivial, fun j hj => ?_⟩
    left
    have h0 : ((List.range ops.size).filter fun i => !listed.getD i true) = [] := List.eq_nil_of_length_eq_zero (by unfold unlisted at hu; omega)
    rw [List.filter_eq_nil_iff] at h0
    have := h0 j (List.mem_range.2 hj)
    simp only [Bool.not_eq_true', Bool.not_eq_false] at this
    have hlt : j < listed.size := by omega
    simp only [Array.getD_eq_getD_getElem?, Array.getElem?_eq_getElem hlt, Option.getD_some] at this ⊢
    exact this
  | succ fuel ih =>
    intro t listed hs hu
    simp only [Region.linearise.go]
    change Topo ops _ (match (Region.ready .any ops listed)[t % (Region.ready .any ops listed).length]? with
      | some i => Region.linearise.go .any ops fuel (t / (Region.ready .any ops listed).length) (listed.setIfInBounds i true) [i]
      | none => [].reverse) ∧ ∀ j, j < ops.size → _ ∨ j ∈ (match (Region.ready .any ops listed)[t % (Region.ready .any ops listed).length]? with
      | some i => Region.linearise.go .any ops fuel (t / (Region.ready .any ops listed).length) (listed.setIfInBounds i true) [i]
      | none => [].reverse)
    cases hi : (Region.ready .any ops listed)[t % (Region.ready .any ops listed).length]? with
    | none =>
      have hnil : Region.ready .any ops listed = [] := by
        cases hr : Region.ready .any ops listed with
        | nil => rfl
        | cons x xs =>
          rw [hr] at hi
          have hlt : t % (x :: xs).length < (x :: xs).length := Nat.mod_lt _ (by simp)
          rw [List.getElem?_eq_getElem hlt] at hi; cases hi
      refine ⟨trivial, fun j hj => ?_⟩
      left
      have key : ∀ (q : Nat), q < ops.size → listed.getD q false = true := by
        intro q
        induction q using Nat.strongRecOn with
        | _ q ihq =>
          intro hq
          by_cases hl : listed.getD q false = true
          · exact hl
          · exfalso
            have hlt : q < listed.size := by omega
            have hmem : q ∈ Region.ready .any ops listed := by
              unfold Region.ready
              rw [List.mem_filter]
              refine ⟨List.mem_range.2 hq, ?_⟩
              have ho : ops[q]? = some ops[q] := Array.getElem?_eq_getElem hq
              simp only [ho, Option.map_some, Option.getD_some, Bool.and_eq_true, Bool.not_eq_true']
              constructor
              · simp only [Array.getD_eq_getD_getElem?, Array.getElem?_eq_getElem hlt, Option.getD_some] at hl ⊢
                simpa using hl
              · rw [Array.all_eq_true_iff_forall_mem]
                intro e he
                by_cases hb : Region.binds .any e = true
                · have hmem : e.on ∈ edgesOf ops[q] := by
                    unfold edgesOf; rw [List.mem_map]; exact ⟨e, List.mem_filter.2 ⟨by simpa using he, hb⟩, rfl⟩
                  have := acyc_spec hac ho hmem
                  rw [ihq e.on this (by omega)]; simp
                · simp [hb]
            rw [hnil] at hmem; cases hmem
      exact key j hj
    | some i =>
      have hmem := List.mem_of_getElem? hi
      simp only [linearise_go_acc .any ops fuel _ _ [i], List.reverse_singleton, List.singleton_append]
      unfold Region.ready at hmem
      rw [List.mem_filter] at hmem
      obtain ⟨hr, hc⟩ := hmem
      have hisz := List.mem_range.1 hr
      have hlt : i < listed.size := by omega
      have ho : ops[i]? = some ops[i] := Array.getElem?_eq_getElem hisz
      simp only [ho, Option.map_some, Option.getD_some, Bool.and_eq_true, Bool.not_eq_true'] at hc
      obtain ⟨hnl, hall⟩ := hc
      have hset : ∀ j, ((listed.setIfInBounds i true).getD j false = true) ↔ (listed.getD j false = true ∨ j = i) := by
        intro j
        simp only [Array.getD_eq_getD_getElem?, Array.getElem?_setIfInBounds]
        by_cases hij : i = j
        · subst hij; simp [hlt]
        · rw [if_neg hij]
          constructor
          · intro h; exact .inl h
          · rintro (h | h)
            · exact h
            · exact (hij h.symm).elim
      have hcnt : unlisted ops (listed.setIfInBounds i true) ≤ fuel := by
        have : unlisted ops (listed.setIfInBounds i true) < unlisted ops listed := by
          unfold unlisted
          have hsub : ((List.range ops.size).filter fun q => !(listed.setIfInBounds i true).getD q true) = ((List.range ops.size).filter fun q => !listed.getD q true).filter fun q => q != i := by
            rw [List.filter_filter]
            apply List.filter_congr
            intro q hq
            have hq' := List.mem_range.1 hq
            have hql : q < listed.size := by omega
            simp only [Array.getD_eq_getD_getElem?, Array.getElem?_setIfInBounds]
            by_cases hiq : i = q
            · subst hiq; simp [hlt]
            · rw [if_neg hiq]
              have : (q != i) = true := by simpa using fun e => hiq e.symm
              rw [this, Bool.true_and]
          rw [hsub]
          have hin : i ∈ (List.range ops.size).filter fun q => !listed.getD q true := List.mem_filter.2 ⟨hr, by simp [hnl]⟩
          have := List.length_filter_lt_length_iff_exists (p := fun q => q != i) (l := (List.range ops.size).filter fun q => !listed.getD q true)
          exact this.2 ⟨i, hin, by simp⟩
        omega
      obtain ⟨h1, h2⟩ := ih (t / (Region.ready .any ops listed).length) (listed.setIfInBounds i true) (by simpa using hs) hcnt
      refine ⟨⟨?_, ⟨ops[i], ho, fun e he => ?_⟩, topo_congr hset h1⟩, fun j hj => ?_⟩
      · simp only [Array.getD_eq_getD_getElem?, Array.getElem?_eq_getElem hlt, Option.getD_some] at hnl ⊢
        simp [hnl]
      · unfold edgesOf at he
        rw [List.mem_map] at he
        obtain ⟨ed, hed, rfl⟩ := he
        obtain ⟨hed1, hed2⟩ := List.mem_filter.1 hed
        rw [Array.all_eq_true_iff_forall_mem] at hall
        have := hall ed (by simpa using hed1)
        simpa [hed2] using this
      · rcases h2 j hj with h3 | h3
        · rcases (hset j).1 h3 with h4 | h4
          · exact .inl h4
          · exact .inr (by rw [h4]; simp)
        · exact .inr (List.mem_cons_of_mem _ h3)
end Go.Proofs.AE
set_option linter.unusedVariables false
set_option linter.unusedSimpArgs false
namespace Go.Proofs.AE
open Go Go.RowKit
theorem pureOp_hp {P : Program} {hp hp' : Hp} {ev : Operand → AV} {op : Op} (h : isReader op = false) : pureOp P hp ev op = pureOp P hp' ev op := by
  cases op <;> first | rfl | (cases h; done) | (rename_i fn _ _; cases fn <;> rfl)
theorem pureOp_congr {P : Program} {hp : Hp} {ev ev' : Operand → AV} {op : Op} (h : ∀ x ∈ op.operands, ev x = ev' x) : pureOp P hp ev op = pureOp P hp ev' op := by
  have ps : ∀ (l : List (Nat × Operand)), (∀ x ∈ l.map (·.2), ev x = ev' x) → (l.map fun (k, x) => (k, ev x)) = (l.map fun (k, x) => (k, ev' x)) := by
    intro l hl
    apply List.map_congr_left
    rintro ⟨k, x⟩ hx
    simp only [hl x (List.mem_map.2 ⟨(k, x), hx, rfl⟩)]
  have os : ∀ (l : List Operand), (∀ x ∈ l, ev x = ev' x) → l.map ev = l.map ev' := fun l hl => List.map_congr_left hl
  have oo : ∀ (o : Option Operand), (∀ x ∈ o.toArray, ev x = ev' x) → o.map ev = o.map ev' := by
    intro o ho
    cases o with
    | none => rfl
    | some x => simp [ho x (by simp [Option.toArray])]
  cases op with
  | move x => simp only [pureOp, h x (by simp [Op.operands])]
  | assign x => simp only [pureOp, h x (by simp [Op.operands])]
  | load t x => simp only [pureOp, h x (by simp [Op.operands])]
  | binOp op t x y yt => simp only [pureOp, h x (by simp [Op.operands]), h y (by simp [Op.operands])]
  | unOp op t x => simp only [pureOp, h x (by simp [Op.operands])]
  | convert a b x => simp only [pureOp, h x (by simp [Op.operands])]
  | slice t x lo hi mx =>
    have h1 := oo lo fun y hy => h y (by simp only [Op.operands, Array.mem_append]; exact .inl (.inl (.inr hy)))
    have h2 := oo hi fun y hy => h y (by simp only [Op.operands, Array.mem_append]; exact .inl (.inr hy))
    have h3 := oo mx fun y hy => h y (by simp only [Op.operands, Array.mem_append]; exact .inr hy)
    simp only [pureOp, h x (by simp [Op.operands]), h1, h2, h3]
  | fieldAddr t x f => simp only [pureOp, h x (by simp [Op.operands])]
  | field t x f => simp only [pureOp, h x (by simp [Op.operands])]
  | indexAddr t x i => simp only [pureOp, h x (by simp [Op.operands]), h i (by simp [Op.operands])]
  | index t x i => simp only [pureOp, h x (by simp [Op.operands]), h i (by simp [Op.operands])]
  | extract t i => simp only [pureOp, h t (by simp [Op.operands])]
  | nilCheck x => simp only [pureOp, h x (by simp [Op.operands])]
  | makeFunc fn first caps =>
    have h1 := os first.toList fun y hy => h y (by simp only [Op.operands, Array.mem_append]; exact .inl (by simpa using hy))
    have h2 := os caps.toList fun y hy => h y (by simp only [Op.operands, Array.mem_append]; exact .inr (by simpa using hy))
    cases fn <;> simp only [pureOp, h1, h2]
  | lookup t x k okk => simp only [pureOp, h x (by simp [Op.operands]), h k (by simp [Op.operands])]
  | build t parts =>
    have h1 := ps parts.toList fun y hy => h y (by simp only [Op.operands]; simpa using hy)
    simp only [pureOp, h1]
  | call c =>
    obtain ⟨callee, args, ts⟩ := c
    have h1 := os args.toList fun y hy => h y (by simp only [Op.operands, Call.operands, Array.mem_append]; exact .inr (by simpa using hy))
    cases callee with
    | builtin b =>
      cases b <;> simp only [pureOp, h1]
      split
      · rename_i x t hx ht
        have : ev x = ev' x := h x (by simp only [Op.operands, Call.operands, Array.mem_append]; exact .inr (by rw [← Array.mem_toList_iff, hx]; simp))
        simp only [this]
      · rfl
    | _ => rfl
  | _ => rfl
theorem avs_congr {ev ev' : Operand → AV} {l : List Operand} (h : ∀ x ∈ l, ev x = ev' x) : l.map ev = l.map ev' := List.map_congr_left h
theorem heapOp_congr {P : Program} {hp : Hp} {ev ev' : Operand → AV} {op : Op} (h : ∀ x ∈ op.operands, ev x = ev' x) : heapOp P hp ev op = heapOp P hp ev' op := by
  have ps : ∀ (l : List (Nat × Operand)), (∀ x ∈ l.map (·.2), ev x = ev' x) → (l.map fun (k, x) => (k, ev x)) = (l.map fun (k, x) => (k, ev' x)) := by
    intro l hl
    apply List.map_congr_left
    rintro ⟨k, x⟩ hx
    simp only [hl x (List.mem_map.2 ⟨(k, x), hx, rfl⟩)]
  cases op with
  | box t x => simp only [heapOp, h x (by simp [Op.operands])]
  | store t a x => simp only [heapOp, h a (by simp [Op.operands]), h x (by simp [Op.operands])]
  | buildSlice t n parts =>
    have h1 := ps parts.toList fun y hy => h y (by simp only [Op.operands]; simpa using hy)
    simp only [heapOp, h1]
  | makeSlice t a b => simp only [heapOp, h a (by simp [Op.operands]), h b (by simp [Op.operands])]
  | call c =>
    obtain ⟨callee, args, ts⟩ := c
    cases callee with
    | builtin b =>
      cases b <;> simp only [heapOp]
      split
      · rename_i s x t u hx ht
        have h1 : ev x = ev' x := h x (by simp only [Op.operands, Call.operands, Array.mem_append]; exact .inr (by rw [← Array.mem_toList_iff, hx]; simp))
        have h2 : ev s = ev' s := h s (by simp only [Op.operands, Call.operands, Array.mem_append]; exact .inr (by rw [← Array.mem_toList_iff, hx]; simp))
        simp only [h1, h2]
      · rfl
    | _ => rfl
  | _ => rfl
theorem callOf_congr {ev ev' : Operand → AV} {op : Op} (h : ∀ x ∈ op.operands, ev x = ev' x) : callOf ev op = callOf ev' op := by
  cases op with
  | call c =>
    obtain ⟨callee, args, ts⟩ := c
    cases callee with
    | value f =>
      have h1 := avs_congr (l := args.toList) (ev := ev) (ev' := ev') fun y hy => h y (by simp only [Op.operands, Call.operands, Array.mem_append]; exact .inr (by simpa using hy))
      have h2 : ev f = ev' f := h f (by simp [Op.operands, Call.operands])
      simp only [callOf, h1, h2]
    | _ => rfl
  | _ => rfl
theorem pickOf_congr {ev ev' : Operand → AV} {op : Op} (h : ∀ x ∈ op.operands, ev x = ev' x) : pickOf ev op = pickOf ev' op := by
  cases op with
  | pick c a b => simp only [pickOf, h c (by simp [Op.operands]), h a (by simp [Op.operands]), h b (by simp [Op.operands])]
  | _ => rfl
inductive DAct (P : Program) (G : Nat → AV) (hp : Hp) (ev : Operand → AV) (op : Op) : AV → Hp → Prop where
  | pure {p : Prop} {v : AV} (h : pureOp P hp ev op = some (p, v)) (hp' : p) : DAct P G hp ev op v hp
  | heap {p : Prop} {v : AV} {hp1 : Hp} (h : heapOp P hp ev op = some (p, v, hp1)) (hp' : p) : DAct P G hp ev op v hp1
  | arj {p : Prop} {v : AV} {hp1 : Hp} (h : exOp P hp ev op = some (p, v, hp1)) (hp' : p) : DAct P G hp ev op v hp1
  | call {f : Nat} {args : List AV} {r : AV} {hp1 : Hp} (h : callOf ev op = some (f, args)) (he : enters P f = true) (hc : ACall P G f hp args fun r' hp' => r' = r ∧ hp' = hp1) : DAct P G hp ev op r hp1
  | pick {q : Bool} {a b : AV} (h : pickOf ev op = some (q, a, b)) : DAct P G hp ev op (if q then a else b) hp
  | frz {p : Prop} {v : AV} {hp1 : Hp} (h : frzOp P hp ev op = some (p, v, hp1)) (hp' : p) : DAct P G hp ev op v hp1
theorem heapOp_eff {P : Program} {hp : Hp} {ev : Operand → AV} {op : Op} (h : isEff op = false) : heapOp P hp ev op = none := by
  cases op with
  | call c =>
    obtain ⟨callee, args, ts⟩ := c
    cases callee with
    | builtin b => cases b <;> first | rfl | (cases h; done)
    | _ => cases h
  | _ => first | rfl | (cases h; done)
theorem arjOpG_eff {P : Program} {hp : Hp} {ev : Operand → AV} {op : Op} (h : isEff op = false) : arjOpG P hp ev op = none := by
  unfold arjOpG
  split
  · cases op with
    | call c =>
      obtain ⟨callee, args, ts⟩ := c
      cases callee with
      | builtin b => cases b <;> first | rfl | (cases h; done)
      | _ => cases h
    | _ => first | rfl | (cases h; done)
  · rfl
theorem mapOp_eff {P : Program} {hp : Hp} {ev : Operand → AV} {op : Op} (h : isEff op = false) : mapOp P hp ev op = none := by
  cases op with
  | call c =>
    obtain ⟨callee, args, ts⟩ := c
    cases callee with
    | builtin b => cases b <;> first | rfl | (cases h; done)
    | _ => cases h
  | _ => first | rfl | (cases h; done)
theorem arjOp_eff {P : Program} {hp : Hp} {ev : Operand → AV} {op : Op} (h : isEff op = false) : exOp P hp ev op = none := by
  unfold exOp
  rw [mapOp_eff h]
  exact arjOpG_eff h
theorem mapOp_congr {P : Program} {hp : Hp} {ev ev' : Operand → AV} {op : Op} (h : ∀ x ∈ op.operands, ev x = ev' x) : mapOp P hp ev op = mapOp P hp ev' op := by
  cases op with
  | makeMap t r => cases r <;> rfl
  | mapUpdate t m k v => simp only [mapOp, h m (by simp [Op.operands]), h k (by simp [Op.operands]), h v (by simp [Op.operands])]
  | call c =>
    obtain ⟨callee, args, ts⟩ := c
    have hargs : ∀ x ∈ args.toList, ev x = ev' x := fun y hy => h y (by simp only [Op.operands, Call.operands, Array.mem_append]; exact .inr (by simpa using hy))
    cases callee with
    | builtin b =>
      cases b <;> first
        | rfl
        | (simp only [mapOp]
           split
           · rename_i x y t u hl _
             rw [hargs x (by rw [hl]; simp), hargs y (by rw [hl]; simp)]
           · rfl)
    | _ => rfl
  | _ => rfl
theorem arjOpG_congr {P : Program} {hp : Hp} {ev ev' : Operand → AV} {op : Op} (h : ∀ x ∈ op.operands, ev x = ev' x) : arjOpG P hp ev op = arjOpG P hp ev' op := by
  unfold arjOpG
  split
  · cases op with
    | store t a x => simp only [arjOp, h a (by simp [Op.operands]), h x (by simp [Op.operands])]
    | call c =>
      obtain ⟨callee, args, ts⟩ := c
      have hargs : ∀ x ∈ args.toList, ev x = ev' x := fun y hy => h y (by simp only [Op.operands, Call.operands, Array.mem_append]; exact .inr (by simpa using hy))
      cases callee with
      | value f =>
        have h2 : ev f = ev' f := h f (by simp [Op.operands, Call.operands])
        simp only [arjOp, h2]
        split
        · rename_i g x y _ hl
          rw [hargs x (by rw [hl]; simp), hargs y (by rw [hl]; simp)]
        · rfl
      | builtin b =>
        cases b <;> first
          | rfl
          | (simp only [arjOp]
             split
             · rename_i x t hl _
               rw [hargs x (by rw [hl]; simp)]
             · rfl)
          | (simp only [arjOp]
             split
             · rename_i x y t u hl _
               rw [hargs x (by rw [hl]; simp), hargs y (by rw [hl]; simp)]
             · rfl)
      | _ => rfl
    | _ => rfl
  · rfl
theorem arjOp_congr {P : Program} {hp : Hp} {ev ev' : Operand → AV} {op : Op} (h : ∀ x ∈ op.operands, ev x = ev' x) : exOp P hp ev op = exOp P hp ev' op := by
  unfold exOp
  rw [mapOp_congr h, arjOpG_congr h]
theorem callOf_eff {ev : Operand → AV} {op : Op} (h : isEff op = false) : callOf ev op = none := by
  cases op with
  | call c =>
    obtain ⟨callee, args, ts⟩ := c
    cases callee with
    | builtin b => rfl
    | _ => cases h
  | _ => rfl
theorem frzOp_eff {P : Program} {hp : Hp} {ev : Operand → AV} {op : Op} (h : isEff op = false) : frzOp P hp ev op = none := by
  cases op <;> first | rfl | (cases h; done)
theorem DAct.keeps {P : Program} {G : Nat → AV} {hp hp' : Hp} {ev : Operand → AV} {op : Op} {v : AV} (h : DAct P G hp ev op v hp') (he : isEff op = false) : hp' = hp := by
  cases h with
  | pure => rfl
  | heap h => rw [heapOp_eff he] at h; cases h
  | arj h => rw [arjOp_eff he] at h; cases h
  | call h => rw [callOf_eff he] at h; cases h
  | pick => rfl
  | frz h => rw [frzOp_eff he] at h; cases h
theorem DAct.move {P : Program} {G : Nat → AV} {hp hp' hq : Hp} {ev ev' : Operand → AV} {op : Op} {v : AV} (h : DAct P G hp ev op v hp') (hev : ∀ x ∈ op.operands, ev x = ev' x)
    (h1 : isEff op = true → hq = hp) (h2 : isEff op = false → pureOp P hq ev op = pureOp P hp ev op) : DAct P G hq ev' op v (if isEff op then hp' else hq) := by
  cases he : isEff op with
  | true =>
    rw [h1 he]
    simp only [if_true]
    cases h with
    | pure h hp' => exact .pure (by rw [← pureOp_congr hev]; exact h) hp'
    | heap h hp' => exact .heap (by rw [← heapOp_congr hev]; exact h) hp'
    | arj h hp' => exact .arj (by rw [← arjOp_congr hev]; exact h) hp'
    | call h he hc => exact .call (by rw [← callOf_congr hev]; exact h) he hc
    | pick h => exact .pick (by rw [← pickOf_congr hev]; exact h)
    | frz h hp' => exact .frz (by rw [← frzOp_congr hev]; exact h) hp'
  | false =>
    simp only [Bool.false_eq_true, if_false]
    cases h with
    | pure h hp' => exact .pure (by rw [← pureOp_congr hev, h2 he]; exact h) hp'
    | heap h => rw [heapOp_eff he] at h; cases h
    | arj h => rw [arjOp_eff he] at h; cases h
    | call h => rw [callOf_eff he] at h; cases h
    | pick h => exact .pick (by rw [← pickOf_congr hev]; exact h)
    | frz h => rw [frzOp_eff he] at h; cases h
section
variable {P : Program} {G : Nat → AV} {w : World} {ok : Nat → Prop} {μ : List MB} {hp hp' : Hp} {a : Act}
theorem dact_sound {o : Oper} {ev : Operand → AV} {v : AV} (hr : HR w ok μ hp) (hg : GRel w ok G) (hev : ∀ x, AVRel w ok μ (ev x) (a.eval x)) (h : DAct P G hp ev o.op v hp')
    {K : Act → World → Prop} (hK : ∀ x w' ok' μ', Step w ok μ hp w' ok' μ' hp' → AVRel w' ok' μ' v x → K (a.put o.dst x) w') {Q : Exit → Act → World → Prop} : o.wp P a w K Q := by
  unfold Oper.wp
  cases h with
  | pure h hp =>
    obtain ⟨x, hx, hrel⟩ := pureOp_sound (w := w) hr hev h hp
    rw [hx]
    exact hK x w ok μ (Step.refl hr) hrel
  | heap h hp =>
    obtain ⟨nx, w', μ', hx, hs, hrel⟩ := heapOp_sound (w := w) hr hev h hp
    rw [hx]
    rcases hrel with ⟨x, rfl, hrel⟩ | ⟨rfl, rfl⟩
    · exact hK x w' ok μ' hs hrel
    · exact hK undef w' ok μ' hs .any
  | arj h hp =>
    obtain ⟨nx, w', μ', hx, hs, hrel⟩ := exOp_sound (w := w) hr hev h hp
    rw [hx]
    rcases hrel with ⟨x, rfl, hrel⟩ | ⟨rfl, rfl⟩
    · exact hK x w' ok μ' hs hrel
    · exact hK undef w' ok μ' hs .any
  | frz h hp =>
    obtain ⟨ok1, hp1, ev1, s1, hev1, h1⟩ := frzOp_as hr hev h
    obtain ⟨nx, w', μ', hx, hs, hrel⟩ := heapOp_sound (w := w) s1.hr hev1 h1 hp
    rw [hx]
    rcases hrel with ⟨x, rfl, hrel⟩ | ⟨rfl, rfl⟩
    · exact hK x w' ok1 μ' (s1.trans hs) hrel
    · exact hK undef w' ok1 μ' (s1.trans hs) .any
  | @call f args r _ hc hent hcall =>
    unfold callOf at hc
    split at hc
    · rename_i fo as ts heq
      split at hc
      · rename_i g first caps hfe
        cases hc
        have hfr := hev fo
        rw [hfe] at hfr
        cases hfv : a.eval fo with
        | func fn fs cs =>
          rw [hfv] at hfr
          cases hfr with | fn hfirst hcaps =>
          have hargs : AVRels w ok μ (first.map .one ++ as.toList.map ev ++ caps.map .one) (fs.toList ++ (as.toList.map a.eval) ++ cs.toList) :=
            avrels_append (avrels_append (avrels_one hfirst) (avrels_map hev as.toList)) (avrels_one hcaps)
          have hC := hcall w ok μ _ hr hg hargs
          have hrun : (execOp a.eval o).run P w = .ok (.enter f (fs.toList ++ (as.toList.map a.eval) ++ cs.toList).toArray) w := by
            unfold enters at hent
            split at hent
            · rename_i fn hfn
              simp only [Bool.and_eq_true, Bool.not_eq_true'] at hent
              simp only [execOp, heq, resolve, hfv, Deferred.ofValue, Sem.run_bind, Sem.run_pure, Result.andThen_ok, invoke, callFunc, run_program, hfn, hent.1, hent.2, Bool.false_eq_true, if_false]
              congr 2
              apply Array.ext'
              simp
            · cases hent
          rw [hrun]
          simp only [Oper.upon]
          refine hC.mono ?_
          rintro e w' ⟨x, r', hp1, ok', μ', rfl, hs, hrel, rfl, rfl⟩
          exact hK x w' ok' μ' hs hrel
        | _ => rw [hfv] at hfr; cases hfr
      · cases hc
    · cases hc
  | @pick q va vb hpk =>
    unfold pickOf at hpk
    split at hpk
    · rename_i c x y heq
      split at hpk
      · rename_i q' hcq
        cases hpk
        have hc := hev c
        rw [hcq] at hc
        have hc' := lit_rel hc
        have hrun : (execOp a.eval o).run P w = .ok (.value (if q then a.eval x else a.eval y)) w := by
          simp [execOp, heq, hc', asBool]
        rw [hrun]
        cases q with
        | true => exact hK _ w ok μ (Step.refl hr) (hev x)
        | false => exact hK _ w ok μ (Step.refl hr) (hev y)
      · cases hpk
    · cases hpk
end
end Go.Proofs.AE
set_option linter.unusedVariables false
set_option linter.unusedSimpArgs false
namespace Go.Proofs.AE
open Go Go.RowKit
def DStep (P : Program) (o : AOp) (s s' : S) : Prop :=
  s'.gl = s.gl ∧
  ((∃ v, (o.g = none ∨ ∃ t b, o.g = some (t, b) ∧ getF s.fr t = bl b) ∧ DAct P s.gl s.hp s.eval o.op v s'.hp ∧ ∀ t, getF s'.fr t = if o.dst = some t then v else getF s.fr t) ∨
   ((∃ t b, o.g = some (t, b) ∧ (getF s.fr t = bl (!b) ∨ getF s.fr t = .tup [])) ∧ s'.hp = s.hp ∧ ∀ t, getF s'.fr t = if o.dst = some t then .tup [] else getF s.fr t))
def valAt (st : Nat → S) (d : Nat → Option Nat) (X : List Nat) (t : Nat) : Nat → AV
  | 0 => getF (st 0).fr t
  | k + 1 => if k ∈ X ∧ d k = some t then getF (st (k + 1)).fr t else valAt st d X t k
def hpAt (st : Nat → S) (eff : Nat → Bool) (X : List Nat) : Nat → Hp
  | 0 => (st 0).hp
  | k + 1 => if k ∈ X ∧ eff k = true then (st (k + 1)).hp else hpAt st eff X k
section
variable {st : Nat → S} {d : Nat → Option Nat} {eff : Nat → Bool} {X : List Nat} {N : Nat}
theorem valAt_full (hf : ∀ k, k < N → ∀ t, d k ≠ some t → getF (st (k + 1)).fr t = getF (st k).fr t) {t : Nat} : ∀ {k : Nat}, k ≤ N → (∀ l, l < k → d l = some t → l ∈ X) → valAt st d X t k = getF (st k).fr t
  | 0, _, _ => rfl
  | k + 1, hk, h => by
    simp only [valAt]
    by_cases hd : d k = some t
    · rw [if_pos ⟨h k (Nat.lt_succ_self k) hd, hd⟩]
    · rw [if_neg (fun h => hd h.2), valAt_full hf (by omega) fun l hl => h l (by omega)]
      exact (hf k (by omega) t hd).symm
theorem valAt_skip {t : Nat} : ∀ {m k : Nat}, k ≤ m → (∀ l, k ≤ l → l < m → d l = some t → l ∉ X) → valAt st d X t m = valAt st d X t k
  | 0, k, hk, _ => by rw [Nat.le_zero.1 hk]
  | m + 1, k, hk, h => by
    by_cases he : k = m + 1
    · rw [he]
    · simp only [valAt]
      rw [if_neg (fun hh => h m (by omega) (by omega) hh.2 hh.1)]
      exact valAt_skip (by omega) fun l h1 h2 => h l h1 (by omega)
theorem hpAt_full (hf : ∀ k, k < N → eff k = false → (st (k + 1)).hp = (st k).hp) : ∀ {k : Nat}, k ≤ N → (∀ l, l < k → eff l = true → l ∈ X) → hpAt st eff X k = (st k).hp
  | 0, _, _ => rfl
  | k + 1, hk, h => by
    simp only [hpAt]
    by_cases hd : eff k = true
    · rw [if_pos ⟨h k (Nat.lt_succ_self k) hd, hd⟩]
    · rw [if_neg (fun h => hd h.2), hpAt_full hf (by omega) fun l hl => h l (by omega)]
      exact (hf k (by omega) (by simpa using hd)).symm
theorem hpAt_skip : ∀ {m k : Nat}, k ≤ m → (∀ l, k ≤ l → l < m → eff l = true → l ∉ X) → hpAt st eff X m = hpAt st eff X k
  | 0, k, hk, _ => by rw [Nat.le_zero.1 hk]
  | m + 1, k, hk, h => by
    by_cases he : k = m + 1
    · rw [he]
    · simp only [hpAt]
      rw [if_neg (fun hh => h m (by omega) (by omega) hh.2 hh.1)]
      exact hpAt_skip (by omega) fun l h1 h2 => h l h1 (by omega)
theorem valAt_cons {t k : Nat} (hne : d k ≠ some t) : ∀ {m : Nat}, valAt st d (k :: X) t m = valAt st d X t m
  | 0 => rfl
  | m + 1 => by
    simp only [valAt, valAt_cons hne (m := m)]
    by_cases hm : m = k
    · subst hm; rw [if_neg (fun h => hne h.2), if_neg (fun h => hne h.2)]
    · simp [hm]
theorem hpAt_cons {k : Nat} (hne : eff k = false) : ∀ {m : Nat}, hpAt st eff (k :: X) m = hpAt st eff X m
  | 0 => rfl
  | m + 1 => by
    simp only [hpAt, hpAt_cons hne (m := m)]
    by_cases hm : m = k
    · subst hm; simp [hne]
    · simp [hm]
end
section
variable {P : Program} {G : Nat → AV} {k0 n : Nat} {w0 : World} {ok0 : Nat → Prop} {μ0 : List MB} {hp0 : Hp}
structure Part (k0 n : Nat) (w0 : World) (ok0 : Nat → Prop) (μ0 : List MB) (hp0 : Hp) (G : Nat → AV) (val : Nat → AV) (hp : Hp) (a : Act) (w : World) : Prop where
  ex : ∃ ok μ, HR w ok μ hp ∧ a.tmps.size = n ∧ a.defers = [] ∧ (∀ t, AVRel w ok μ (val t) (a.tmps.getD t undef)) ∧ GRel w ok G ∧ Far k0 w0 ok0 μ0 hp0 w ok μ hp
theorem Part.congr {val val' : Nat → AV} {hp hp' : Hp} {a : Act} {w : World} (h : Part k0 n w0 ok0 μ0 hp0 G val hp a w) (hv : ∀ t, val t = val' t) (hh : hp = hp') : Part k0 n w0 ok0 μ0 hp0 G val' hp' a w := by
  subst hh
  obtain ⟨ok, μ, h1, h2, h3, h4, h5, h6⟩ := h.ex
  exact ⟨ok, μ, h1, h2, h3, fun t => hv t ▸ h4 t, h5, h6⟩
theorem slot_put {w : World} {ok : Nat → Prop} {μ : List MB} {val val' : Nat → AV} {a : Act} {d : Option Nat} {x : Value} {v : AV} (hs : a.tmps.size = n) (hd : ∀ t, d = some t → t < n)
    (h : ∀ t, AVRel w ok μ (val t) (a.tmps.getD t undef)) (hx : AVRel w ok μ v x) (hv : ∀ t, val' t = if d = some t then v else val t) : ∀ t, AVRel w ok μ (val' t) ((a.put d x).tmps.getD t undef) := by
  intro t
  rw [hv t]
  cases d with
  | none => simpa [Act.put] using h t
  | some u =>
    have hlt := hd u rfl
    simp only [Act.put, Option.some.injEq]
    by_cases hu : u = t
    · subst hu
      rw [if_pos rfl]
      simp [Array.getD_eq_getD_getElem?, hs, hlt, hx]
    · rw [if_neg hu]
      simp only [Array.getD_eq_getD_getElem?, Array.getElem?_setIfInBounds_ne hu]
      have := h t
      rwa [Array.getD_eq_getD_getElem?] at this
structure Told (P : Program) (G : Nat → AV) (n : Nat) (ops : Array Oper) (ord : List Nat) (al : List AOp) (st : Nat → S) : Prop where
  acyc : acyc ops = true
  len : al.length = ord.length
  comp : ∀ (k i : Nat) ao, ord[k]? = some i → al[k]? = some ao → ∃ o, ops[i]? = some o ∧ compOp n ops o = some ao
  nodup : ord.Nodup
  all : ∀ i, i < ops.size → i ∈ ord
  step : ∀ (k : Nat) ao, al[k]? = some ao → DStep P ao (st k) (st (k + 1))
  gl : (st 0).gl = G
  names : ∀ (k l i j : Nat) (a b : AOp) (t : Nat), k ≠ l → ord[k]? = some i → ord[l]? = some j → al[k]? = some a → al[l]? = some b → b.dst = some t → t ∈ namesOf a → (l < k → ancB (ancT ops) i j = true) ∧ (k < l → ancB (ancT ops) j i = true)
  stable : ∀ (k l i j : Nat) (a b : AOp), ord[k]? = some i → ord[l]? = some j → al[k]? = some a → al[l]? = some b → isReader a.op = true → isEff a.op = false → isEff b.op = true →
      (k < l → ancB (ancT ops) j i = false) → (l < k → ancB (ancT ops) i j = false) → pureOp P (st (l + 1)).hp (st k).eval a.op = pureOp P (st l).hp (st k).eval a.op
theorem Told.glk {ops : Array Oper} {ord : List Nat} {al : List AOp} {st : Nat → S} (T : Told P G n ops ord al st) : ∀ k, k ≤ al.length → (st k).gl = G
  | 0, _ => T.gl
  | k + 1, hk => by
    have := T.step k _ (List.getElem?_eq_getElem (by omega))
    rw [this.1]; exact T.glk k (by omega)
def effOf (al : List AOp) (k : Nat) : Bool := match al[k]? with | some a => isEff a.op | none => false
def dstOf (al : List AOp) (k : Nat) : Option Nat := (al[k]?).bind (·.dst)
theorem Told.frame {ops : Array Oper} {ord : List Nat} {al : List AOp} {st : Nat → S} (T : Told P G n ops ord al st) : ∀ k, k < al.length → ∀ t, dstOf al k ≠ some t → getF (st (k + 1)).fr t = getF (st k).fr t := by
  intro k hk t hne
  have ha := List.getElem?_eq_getElem hk
  have hd : (al[k]).dst ≠ some t := by simpa [dstOf, ha] using hne
  obtain ⟨_, h | h⟩ := T.step k _ ha
  · obtain ⟨v, _, _, h3⟩ := h; rw [h3 t, if_neg hd]
  · obtain ⟨_, _, h3⟩ := h; rw [h3 t, if_neg hd]
theorem Told.heap {ops : Array Oper} {ord : List Nat} {al : List AOp} {st : Nat → S} (T : Told P G n ops ord al st) : ∀ k, k < al.length → effOf al k = false → (st (k + 1)).hp = (st k).hp := by
  intro k hk he
  have ha := List.getElem?_eq_getElem hk
  have he' : isEff (al[k]).op = false := by simpa [effOf, ha] using he
  obtain ⟨_, h | h⟩ := T.step k _ ha
  · obtain ⟨v, _, h2, _⟩ := h; exact h2.keeps he'
  · exact h.2.1
theorem operand_names {o : AOp} {x : Operand} {t : Nat} (hx : x ∈ o.op.operands) (ht : x = .tmp t) : t ∈ namesOf o := by
  unfold namesOf
  rw [List.mem_append, List.mem_append]
  left; right
  rw [List.mem_filterMap]
  exact ⟨x, by simpa using hx, by rw [ht]⟩
theorem told_run {ops : Array Oper} {ord : List Nat} {al : List AOp} {st : Nat → S} (T : Told P G n ops ord al st) {Q : Exit → Act → World → Prop}
    (hQ : ∀ a w, Part k0 n w0 ok0 μ0 hp0 G (fun t => getF (st al.length).fr t) (st al.length).hp a w → Q .normal a w) :
    ∀ (π : List Nat) (X : List Nat) (m : Nat) (a : Act) (w : World), Topo ops (fun i => ∃ k ∈ X, ord[k]? = some i) π → (∀ k ∈ X, k < ord.length) →
      (∀ i o e, (∃ k ∈ X, ord[k]? = some i) → ops[i]? = some o → e ∈ edgesOf o → ∃ k ∈ X, ord[k]? = some e) →
      (∀ i, i < ops.size → (∃ k ∈ X, ord[k]? = some i) ∨ i ∈ π) →
      m ≤ al.length → (∀ l, effOf al l = true → (l ∈ X ↔ l < m)) → (π.filter fun i => match ops[i]? with | some o => isEff o.op | none => false) = (ord.drop m).filter (fun i => match ops[i]? with | some o => isEff o.op | none => false) →
      Part k0 n w0 ok0 μ0 hp0 G (fun t => valAt st (dstOf al) X t al.length) (hpAt st (effOf al) X al.length) a w → wpOps P ops Q π a w := by
  intro π
  induction π with
  | nil =>
    intro X m a w _ hXlt hXc hall hm hme hpi hpart
    have hX : ∀ k, k < al.length → k ∈ X := by
      intro k hk
      have hk' : k < ord.length := by rw [← T.len]; exact hk
      have hi : ord[k]? = some ord[k] := List.getElem?_eq_getElem hk'
      obtain ⟨ao, hao⟩ : ∃ ao, al[k]? = some ao := ⟨_, List.getElem?_eq_getElem hk⟩
      obtain ⟨o, ho, _⟩ := T.comp k _ ao hi hao
      have hlt : ord[k] < ops.size := (Array.getElem?_eq_some_iff.1 ho).1
      rcases hall _ hlt with ⟨k', hk'', he⟩ | h
      · have := getElem?_nodup T.nodup he hi
        subst this; exact hk''
      · cases h
    refine hQ a w (hpart.congr (fun t => ?_) ?_)
    · exact valAt_full (N := al.length) T.frame (Nat.le_refl _) fun l hl _ => hX l hl
    · exact hpAt_full (N := al.length) T.heap (Nat.le_refl _) fun l hl _ => hX l hl
  | cons i π ih =>
    intro X m a w htopo hXlt hXc hall hm hme hpi hpart
    obtain ⟨hnX, ⟨o, ho, hdeps⟩, htail⟩ := htopo
    have hisz : i < ops.size := (Array.getElem?_eq_some_iff.1 ho).1
    obtain ⟨k, hk⟩ : ∃ k, ord[k]? = some i := List.getElem?_of_mem (T.all i hisz)
    have hklt : k < ord.length := lt_of_getElem? hk
    have hkal : k < al.length := by rw [T.len]; exact hklt
    have hkX : k ∉ X := fun h => hnX ⟨k, h, hk⟩
    obtain ⟨ao, hao⟩ : ∃ ao, al[k]? = some ao := ⟨_, List.getElem?_eq_getElem hkal⟩
    obtain ⟨o', ho', hcomp⟩ := T.comp k i ao hk hao
    rw [ho] at ho'; cases ho'
    obtain ⟨⟨hdst, hop⟩, hdlt, hguard⟩ := compOp_spec hcomp
    have hanc : ∀ l j, ord[l]? = some j → ancB (ancT ops) i j = true → l ∈ X := by
      intro l j hl h
      obtain ⟨o2, h2, e, he, h3⟩ := ancT_spec h
      rw [ho] at h2; cases h2
      have hce := hdeps e he
      have : ∃ q ∈ X, ord[q]? = some j := by
        rcases h3 with rfl | h3
        · exact hce
        · exact closed_anc T.acyc (X := fun i => ∃ k ∈ X, ord[k]? = some i) hXc e j hce h3
      obtain ⟨q, hq, hqj⟩ := this
      have := getElem?_nodup T.nodup hqj hl
      subst this; exact hq
    have hancX : ∀ l j, l ∈ X → ord[l]? = some j → ancB (ancT ops) j i = false := by
      intro l j hl hlj
      cases h : ancB (ancT ops) j i with
      | false => rfl
      | true =>
        exfalso
        have := closed_anc T.acyc (X := fun i => ∃ k ∈ X, ord[k]? = some i) hXc j i ⟨l, hl, hlj⟩ h
        exact hnX this
    have hslot : ∀ t, t ∈ namesOf ao → valAt st (dstOf al) X t al.length = getF (st k).fr t := by
      intro t ht
      have wr : ∀ l, l < al.length → l ≠ k → dstOf al l = some t → (l < k → l ∈ X) ∧ (k < l → l ∉ X) := by
        intro l hl hne hd
        have hb := List.getElem?_eq_getElem hl
        have hd' : (al[l]).dst = some t := by simpa [dstOf, hb] using hd
        have hlo : ord[l]? = some (ord[l]'(by rw [← T.len]; exact hl)) := List.getElem?_eq_getElem _
        obtain ⟨q1, q2⟩ := T.names k l i _ ao _ t (fun e => hne e.symm) hk hlo hao hb hd' ht
        refine ⟨fun h => hanc l _ hlo (q1 h), fun h hx => ?_⟩
        have := hancX l _ hx hlo
        rw [q2 h] at this; cases this
      rw [valAt_skip (k := k) (by omega) fun l h1 h2 h3 => ?_]
      · exact valAt_full (N := al.length) T.frame (by omega) fun l hl hd => (wr l (by omega) (by omega) hd).1 hl
      · by_cases hlk : l = k
        · subst hlk; exact hkX
        · exact (wr l h2 hlk h3).2 (by omega)
    obtain ⟨ok, μ, hr, hsz, hdf, hval, hgrel, hfar⟩ := hpart.ex
    let evX : Operand → AV := fun x => match x with | .tmp t => valAt st (dstOf al) X t al.length | .const v => cAV v | .global g => G g | .func f => .fn f [] []
    have hevX : ∀ x, AVRel w ok μ (evX x) (a.eval x) := by
      intro x
      cases x with
      | tmp t => exact hval t
      | const v => exact cAV_rel v
      | global g => exact hgrel g μ
      | func f => exact .fn .nil .nil
    have hglk := T.glk k (by omega)
    have hevs : ∀ x ∈ ao.op.operands, (st k).eval x = evX x := by
      intro x hx
      cases x with
      | tmp t => exact (hslot t (operand_names hx rfl)).symm
      | const v => rfl
      | global g => show (st k).gl g = G g; rw [hglk]
      | func f => rfl
    have hsstep := T.step k ao hao
    have heffk : effOf al k = isEff o.op := by simp [effOf, hao, hop]
    have hpik : isEff o.op = true → k = m ∨ m < k := by
      intro he
      by_cases hlt : k < m
      · exact (hkX ((hme k (by rw [heffk, he])).2 hlt)).elim
      · omega
    have hnext : isEff o.op = true → (∀ l, effOf al l = true → l < k → l ∈ X) ∧ (∀ l, effOf al l = true → k < l → l ∉ X) ∧ (π.filter fun i => match ops[i]? with | some o => isEff o.op | none => false) = (ord.drop (k + 1)).filter (fun i => match ops[i]? with | some o => isEff o.op | none => false) := by
      intro he
      have hmk : m ≤ k := by rcases hpik he with h | h <;> omega
      rw [List.filter_cons] at hpi
      simp only [ho, he, if_true] at hpi
      have key : ∀ (q : Nat), m ≤ q → q ≤ k → (ord.drop m).filter (fun i => match ops[i]? with | some o => isEff o.op | none => false) = (ord.drop q).filter (fun i => match ops[i]? with | some o => isEff o.op | none => false) ∧ ∀ l, m ≤ l → l < q → effOf al l = false := by
        intro q
        induction q with
        | zero => intro h1 _; have : m = 0 := by omega
                  subst this; exact ⟨rfl, fun l h1 h2 => by omega⟩
        | succ q ihq =>
          intro h1 h2
          by_cases hmq : m = q + 1
          · subst hmq; exact ⟨rfl, fun l h1 h2 => by omega⟩
          · obtain ⟨e1, e2⟩ := ihq (by omega) (by omega)
            have hqlt : q < ord.length := by omega
            have hdrop : ord.drop q = ord[q] :: ord.drop (q + 1) := List.drop_eq_getElem_cons hqlt
            by_cases heq : effOf al q = true
            · exfalso
              obtain ⟨aq, haq⟩ : ∃ aq, al[q]? = some aq := ⟨_, List.getElem?_eq_getElem (by omega)⟩
              obtain ⟨oq, hoq, hcq⟩ := T.comp q _ aq (List.getElem?_eq_getElem hqlt) haq
              have hopq := (compOp_spec hcq).1.2
              have heq' : isEff oq.op = true := by simpa [effOf, haq, hopq] using heq
              rw [e1, hdrop, List.filter_cons] at hpi
              simp only [hoq, heq', if_true, List.cons.injEq] at hpi
              have hki : ord[q]? = some i := by rw [List.getElem?_eq_getElem hqlt, hpi.1]
              have := getElem?_nodup T.nodup hki hk
              omega
            · have heq' : effOf al q = false := by simpa using heq
              refine ⟨?_, fun l h3 h4 => ?_⟩
              · obtain ⟨aq, haq⟩ : ∃ aq, al[q]? = some aq := ⟨_, List.getElem?_eq_getElem (by omega)⟩
                obtain ⟨oq, hoq, hcq⟩ := T.comp q _ aq (List.getElem?_eq_getElem hqlt) haq
                have hopq := (compOp_spec hcq).1.2
                have heq'' : isEff oq.op = false := by simpa [effOf, haq, hopq] using heq'
                rw [e1, hdrop, List.filter_cons]
                simp [hoq, heq'']
              · by_cases hlq : l = q
                · subst hlq; exact heq'
                · exact e2 l h3 (by omega)
      obtain ⟨e1, e2⟩ := key k hmk (Nat.le_refl _)
      refine ⟨fun l hl hlk => (hme l hl).2 ?_, fun l hl hlk hx => ?_, ?_⟩
      · by_cases hml : l < m
        · exact hml
        · have := e2 l (by omega) hlk; rw [this] at hl; cases hl
      · have := (hme l hl).1 hx; omega
      · rw [e1, List.drop_eq_getElem_cons hklt, List.filter_cons] at hpi
        have hoi : ord[k] = i := by rw [List.getElem?_eq_getElem hklt] at hk; exact Option.some.inj hk
        simp only [hoi, ho, he, if_true, List.cons.injEq, true_and] at hpi
        exact hpi
    have hheap : isEff o.op = true → hpAt st (effOf al) X al.length = (st k).hp := by
      intro he
      obtain ⟨h1, h2, _⟩ := hnext he
      rw [hpAt_skip (k := k) (by omega) fun l h3 h4 h5 => ?_]
      · exact hpAt_full (N := al.length) T.heap (by omega) fun l hl hl2 => h1 l hl2 hl
      · by_cases hlk : l = k
        · subst hlk; exact hkX
        · exact h2 l h5 (by omega)
    have hpure : isEff o.op = false → pureOp P (hpAt st (effOf al) X al.length) (st k).eval ao.op = pureOp P (st k).hp (st k).eval ao.op := by
      intro he
      by_cases hrd : isReader ao.op = true
      · have hmat : hpAt st (effOf al) X al.length = (st m).hp := by
          rw [hpAt_skip (k := m) (by omega) fun l h3 h4 h5 hx => by have := (hme l h5).1 hx; omega]
          exact hpAt_full (N := al.length) T.heap (by omega) fun l hl hl2 => (hme l hl2).2 hl
        rw [hmat]
        have one : ∀ l, l < al.length → (k ≤ l → l < m) → (l < k → m ≤ l) → pureOp P (st (l + 1)).hp (st k).eval ao.op = pureOp P (st l).hp (st k).eval ao.op := by
          intro l hl q1 q2
          by_cases hle : effOf al l = true
          · obtain ⟨al', hal⟩ : ∃ al', al[l]? = some al' := ⟨_, List.getElem?_eq_getElem hl⟩
            have hlo : ord[l]? = some (ord[l]'(by rw [← T.len]; exact hl)) := List.getElem?_eq_getElem _
            refine T.stable k l i _ ao al' hk hlo hao hal hrd (by rw [hop]; exact he) (by simpa [effOf, hal] using hle) (fun h => ?_) (fun h => ?_)
            · exact hancX l _ ((hme l hle).2 (q1 (by omega))) hlo
            · cases hb : ancB (ancT ops) i (ord[l]'(by rw [← T.len]; exact hl)) with
              | false => rfl
              | true => exfalso; have := (hme l hle).1 (hanc l _ hlo hb); have := q2 h; omega
          · rw [T.heap l hl (by simpa using hle)]
        rcases Nat.le_total m k with hmk | hkm
        · have : ∀ q, m + q ≤ k → pureOp P (st (m + q)).hp (st k).eval ao.op = pureOp P (st m).hp (st k).eval ao.op := by
            intro q
            induction q with
            | zero => intro _; rfl
            | succ q ihq => intro h; rw [← ihq (by omega)]; exact one (m + q) (by omega) (fun h => by omega) (fun h => by omega)
          have := this (k - m) (by omega)
          rw [show m + (k - m) = k by omega] at this
          exact this.symm
        · have : ∀ q, k + q ≤ m → pureOp P (st (k + q)).hp (st k).eval ao.op = pureOp P (st k).hp (st k).eval ao.op := by
            intro q
            induction q with
            | zero => intro _; rfl
            | succ q ihq => intro h; rw [← ihq (by omega)]; exact one (k + q) (by omega) (fun h => by omega) (fun h => by omega)
          have := this (m - k) (by omega)
          rwa [show k + (m - k) = m by omega] at this
      · exact pureOp_hp (by simpa using hrd)
    have hdone : ∀ (v : AV) (x : Value) (a' : Act) (w' : World), a' = a.put o.dst x → getF (st (k + 1)).fr = (fun t => if ao.dst = some t then v else getF (st k).fr t) →
        Part k0 n w0 ok0 μ0 hp0 G (fun t => if o.dst = some t then v else valAt st (dstOf al) X t al.length) (if isEff o.op then (st (k + 1)).hp else hpAt st (effOf al) X al.length) a' w' → wpOps P ops Q π a' w' := by
      intro v x a' w' _ hfr hp
      have hset : ∀ j, (∃ q ∈ X, ord[q]? = some j) ∨ j = i ↔ ∃ q ∈ k :: X, ord[q]? = some j := by
        intro j
        constructor
        · rintro (⟨q, h1, h2⟩ | rfl)
          · exact ⟨q, List.mem_cons_of_mem _ h1, h2⟩
          · exact ⟨k, List.mem_cons_self .., hk⟩
        · rintro ⟨q, h1, h2⟩
          rcases List.mem_cons.1 h1 with rfl | h1
          · rw [hk] at h2; cases h2; exact .inr rfl
          · exact .inl ⟨q, h1, h2⟩
      refine ih (k :: X) (if isEff o.op then k + 1 else m) a' w' (topo_congr hset htail) ?_ ?_ ?_ ?_ ?_ ?_ (hp.congr (fun t => ?_) ?_)
      · intro q hq; rcases List.mem_cons.1 hq with rfl | hq
        · exact hklt
        · exact hXlt q hq
      · rintro j oj e hj hoj he
        rcases (hset j).2 hj with h | rfl
        · exact (hset e).1 (.inl (hXc j oj e h hoj he))
        · rw [ho] at hoj; cases hoj
          exact (hset e).1 (.inl (hdeps e he))
      · intro j hj
        rcases hall j hj with h | h
        · exact .inl ((hset j).1 (.inl h))
        · rcases List.mem_cons.1 h with rfl | h
          · exact .inl ((hset j).1 (.inr rfl))
          · exact .inr h
      · split <;> omega
      · intro l hl
        cases he : isEff o.op with
        | true =>
          obtain ⟨h1, h2, _⟩ := hnext he
          simp only [if_true]
          constructor
          · intro hx; rcases List.mem_cons.1 hx with rfl | hx
            · omega
            · by_cases hlk : l ≤ k
              · omega
              · exact (h2 l hl (by omega) hx).elim
          · intro hlt
            by_cases hlk : l = k
            · subst hlk; exact List.mem_cons_self ..
            · exact List.mem_cons_of_mem _ (h1 l hl (by omega))
        | false =>
          simp only [Bool.false_eq_true, if_false]
          rw [← hme l hl]
          constructor
          · intro hx; rcases List.mem_cons.1 hx with rfl | hx
            · rw [heffk, he] at hl; cases hl
            · exact hx
          · exact List.mem_cons_of_mem _
      · cases he : isEff o.op with
        | true => simp only [if_true]; exact (hnext he).2.2
        | false =>
          simp only [Bool.false_eq_true, if_false]
          rw [List.filter_cons] at hpi
          simpa [ho, he] using hpi
      ·
        by_cases hd : o.dst = some t
        · rw [if_pos hd]
          have hdk : dstOf al k = some t := by simp [dstOf, hao, hdst, hd]
          have hmem : t ∈ namesOf ao := by unfold namesOf; rw [hdst, hd]; simp
          have later : ∀ l, k + 1 ≤ l → l < al.length → dstOf al l = some t → l ∉ k :: X := by
            intro l h1 h2 h3 hx
            rcases List.mem_cons.1 hx with rfl | hx
            · omega
            · have hb := List.getElem?_eq_getElem h2
              have hd' : (al[l]).dst = some t := by simpa [dstOf, hb] using h3
              have hlo : ord[l]? = some (ord[l]'(by rw [← T.len]; exact h2)) := List.getElem?_eq_getElem _
              have := (T.names k l i _ ao _ t (by omega) hk hlo hao hb hd' hmem).2 (by omega)
              rw [hancX l _ hx hlo] at this; cases this
          rw [valAt_skip (k := k + 1) (by omega) later]
          simp only [valAt]
          rw [if_pos ⟨List.mem_cons_self .., hdk⟩, hfr]
          simp [hdst, hd]
        · rw [if_neg hd]
          exact (valAt_cons (by simp [dstOf, hao, hdst, hd])).symm
      · cases he : isEff o.op with
        | true =>
          obtain ⟨h1, h2, _⟩ := hnext he
          simp only [if_true]
          rw [hpAt_skip (k := k + 1) (by omega) fun l h3 h4 h5 hx => ?_]
          · simp only [hpAt]; rw [if_pos ⟨List.mem_cons_self .., by rw [heffk, he]⟩]
          · rcases List.mem_cons.1 hx with rfl | hx
            · omega
            · exact h2 l h5 (by omega) hx
        | false =>
          simp only [Bool.false_eq_true, if_false]
          exact (hpAt_cons (by rw [heffk, he])).symm
    obtain ⟨hglstep, hstep⟩ := hsstep
    have run : ∀ v, DAct P (st k).gl (st k).hp (st k).eval ao.op v (st (k + 1)).hp → (∀ t, getF (st (k + 1)).fr t = if ao.dst = some t then v else getF (st k).fr t) → o.wp P a w (wpOps P ops Q π) Q := by
      intro v hact hfr
      have hact2 := hact.move (hq := hpAt st (effOf al) X al.length) hevs (fun he => hheap (by rw [← hop]; exact he)) (fun he => hpure (by rw [← hop]; exact he))
      rw [hop, hglk] at hact2
      refine dact_sound hr hgrel hevX hact2 (K := wpOps P ops Q π) ?_
      intro x w' ok' μ' hs hrel
      refine hdone v x _ w' rfl (funext hfr) ⟨ok', μ', hs.hr, by rw [Act.put_size]; exact hsz, by cases o.dst <;> exact hdf, ?_, fun g ν => (hgrel g ν).mono (hs.keep hr) hs.oksub, hfar.trans hs.far⟩
      exact slot_put hsz hdlt (fun t => hs.av hr (hval t)) hrel fun t => rfl
    have skip : (st (k + 1)).hp = (st k).hp → (∀ t, getF (st (k + 1)).fr t = if ao.dst = some t then .tup [] else getF (st k).fr t) → wpOps P ops Q π (a.put o.dst undef) w := by
      intro hhp hfr
      refine hdone (.tup []) undef _ w rfl (funext hfr) ⟨ok, μ, ?_, by rw [Act.put_size]; exact hsz, by cases o.dst <;> exact hdf, ?_, hgrel, ?_⟩
      · cases he : isEff o.op with
        | true => simp only [if_true]; rw [hhp, ← hheap he]; exact hr
        | false => simpa using hr
      · exact slot_put hsz hdlt hval (.tup .nil) fun t => rfl
      · cases he : isEff o.op with
        | true => simp only [if_true]; rw [hhp, ← hheap he]; exact hfar
        | false => simpa using hfar
    simp only [wpOps, ho]
    have hgslot : ∀ t, t ∈ namesOf ao → AVRel w ok μ (getF (st k).fr t) (a.tmps.getD t undef) := fun t ht => by rw [← hslot t ht]; exact hval t
    have hyield : ∀ j b t, o.guard = some (j, b) → (ops[j]?).bind (·.dst) = some t → t < n → (∀ b', getF (st k).fr t = bl b' → t ∈ namesOf ao → Region.wanted o (yielded ops a.tmps) = (b' == b)) ∧ (getF (st k).fr t = .tup [] → t ∈ namesOf ao → Region.wanted o (yielded ops a.tmps) = false) := by
      intro j b t hg hj hlt
      have hltm : t < a.tmps.size := by rw [hsz]; exact hlt
      have hget : a.tmps[t]? = some (a.tmps.getD t undef) := by simp [Array.getD_eq_getD_getElem?, hltm]
      constructor
      · intro b' hb' hmem
        have hx := hgslot t hmem
        rw [hb'] at hx
        have hx' := lit_rel hx
        unfold Region.wanted
        rw [hg]
        simp only [yielded_slot hj, hget, hx']
        rfl
      · intro hb' hmem
        have hx := hgslot t hmem
        rw [hb'] at hx
        generalize hv : a.tmps.getD t undef = v at hx hget
        cases hx with | tup hx =>
        unfold Region.wanted
        rw [hg]
        simp only [yielded_slot hj, hget]
        rfl
    rcases hguard with ⟨hgn, hagn⟩ | ⟨j, b, t, hgs, hags, hj, hlt⟩
    · rw [if_pos (by simp [Region.wanted, hgn])]
      rcases hstep with ⟨v, _, h2, h3⟩ | ⟨⟨t, b, h1, _⟩, _⟩
      · exact .inl (run v h2 h3)
      · rw [hagn] at h1; cases h1
    · have hmem : t ∈ namesOf ao := by unfold namesOf; rw [hags]; simp
      obtain ⟨y1, y2⟩ := hyield j b t hgs hj hlt
      rcases hstep with ⟨v, h1, h2, h3⟩ | ⟨⟨t', b', h1, h4⟩, h2, h3⟩
      · rcases h1 with h1 | ⟨t', b', h1, h4⟩
        · rw [hags] at h1; cases h1
        · rw [hags] at h1; cases h1
          rw [if_pos (by rw [y1 b h4 hmem]; simp)]
          exact .inl (run v h2 h3)
      · rw [hags] at h1; cases h1
        have : Region.wanted o (yielded ops a.tmps) = false := by
          rcases h4 with h4 | h4
          · rw [y1 _ h4 hmem]; cases b <;> rfl
          · exact y2 h4 hmem
        rw [if_neg (by rw [this]; simp)]
        exact skip h2 h3
end
end Go.Proofs.AE
set_option linter.unusedVariables false
set_option linter.unusedSimpArgs false
namespace Go.Proofs.AE
open Go Go.RowKit
theorem compIdx_spec {n : Nat} {ops : Array Oper} : ∀ {l : List Nat} {al : List AOp}, compIdx n ops l = some al → al.length = l.length ∧ ∀ (k i : Nat) ao, l[k]? = some i → al[k]? = some ao → ∃ o, ops[i]? = some o ∧ compOp n ops o = some ao
  | [], al, h => by cases h; exact ⟨rfl, fun k i ao h => by simp at h⟩
  | j :: l, al, h => by
    unfold compIdx at h
    split at h
    · rename_i o ho
      split at h
      · rename_i a al' ha hal
        cases h
        obtain ⟨h1, h2⟩ := compIdx_spec hal
        refine ⟨by simp [h1], fun k i ao hk hao => ?_⟩
        cases k with
        | zero => simp at hk hao; subst hk; subst hao; exact ⟨o, ho, ha⟩
        | succ k => simp at hk hao; exact h2 k i ao hk hao
      · cases h
    · cases h
theorem mem_zz {ord : List Nat} {al : List AOp} {k i : Nat} {a : AOp} (h1 : ord[k]? = some i) (h2 : al[k]? = some a) : ((i, a), k) ∈ (ord.zip al).zipIdx := by
  rw [List.mem_zipIdx_iff_getElem?]
  exact List.getElem?_zip_eq_some.2 ⟨h1, h2⟩
theorem namesOk_spec {A : List Nat} {ord : List Nat} {al : List AOp} (h : namesOk A ord al = true) {k l i j : Nat} {a b : AOp} {t : Nat} (hne : k ≠ l) (h1 : ord[k]? = some i) (h2 : ord[l]? = some j) (h3 : al[k]? = some a) (h4 : al[l]? = some b) (hd : b.dst = some t) (hm : t ∈ namesOf a) :
    (l < k → ancB A i j = true) ∧ (k < l → ancB A j i = true) := by
  unfold namesOk at h
  rw [List.all_eq_true] at h
  have := h _ (mem_zz h1 h3)
  simp only at this
  rw [List.all_eq_true] at this
  have := this _ (mem_zz h2 h4)
  simp only [hd, Bool.or_eq_true, beq_iff_eq, Bool.not_eq_true', Bool.and_eq_true] at this
  rcases this with h5 | h5 | h5
  · exact (hne h5).elim
  · have : (namesOf a).contains t = true := by simpa using hm
    rw [this] at h5; cases h5
  · constructor
    · intro hlt
      rcases h5.1 with h6 | h6
      · simp [hlt] at h6
      · exact h6
    · intro hlt
      rcases h5.2 with h6 | h6
      · simp [hlt] at h6
      · exact h6
theorem pairsOf_spec {A : List Nat} {ord : List Nat} {al : List AOp} {k l i j : Nat} {a b : AOp} (h1 : ord[k]? = some i) (h2 : ord[l]? = some j) (h3 : al[k]? = some a) (h4 : al[l]? = some b) (hr : isReader a.op = true) (he : isEff a.op = false) (hb : isEff b.op = true)
    (hkl : k < l → ancB A j i = false) (hlk : l < k → ancB A i j = false) : (k, l) ∈ pairsOf A ord al := by
  unfold pairsOf
  rw [List.mem_flatMap]
  refine ⟨_, mem_zz h1 h3, ?_⟩
  simp only [hr, he, Bool.not_false, Bool.and_self, if_true]
  rw [List.mem_filterMap]
  refine ⟨_, mem_zz h2 h4, ?_⟩
  have e1 : (!decide (k < l) || !ancB A j i) = true := by
    by_cases h : k < l
    · simp [hkl h]
    · simp [h]
  have e2 : (!decide (l < k) || !ancB A i j) = true := by
    by_cases h : l < k
    · simp [hlk h]
    · simp [h]
  simp [hb, e1, e2]
structure AltOf (n : Nat) (ops : Array Oper) (A : List Nat) (e ord : List Nat) (al : List AOp) (ps : List (Nat × Nat)) : Prop where
  nodup : ord.Nodup
  all : ∀ i, i < ops.size → i ∈ ord
  eff : ord.filter (effI ops) = e
  comp : compIdx n ops ord = some al
  names : namesOk A ord al = true
  pairs : ps = pairsOf A ord al
theorem altOf_spec {n : Nat} {ops : Array Oper} {A e : List Nat} {al : List AOp} {ps : List (Nat × Nat)} (h : altOf n ops A e = some (al, ps)) : ∃ ord, AltOf n ops A e ord al ps := by
  unfold altOf at h
  refine ⟨canon ops (effI ops) ops.size [] (List.range ops.size) e, ?_⟩
  simp only at h
  split at h
  · rename_i hc
    simp only [Bool.and_eq_true, decide_eq_true_eq, beq_iff_eq] at hc
    split at h
    · rename_i al' hal
      split at h
      · rename_i hn
        cases h
        refine ⟨hc.1.1, fun i hi => ?_, hc.2, hal, hn, rfl⟩
        have := hc.1.2
        rw [List.all_eq_true] at this
        have := this i (List.mem_range.2 hi)
        simpa using this
      · cases h
    · cases h
  · cases h
theorem altsOf_spec {n : Nat} {ops : Array Oper} {A : List Nat} : ∀ {es : List (List Nat)} {alts : List (List AOp × List (Nat × Nat))}, altsOf n ops A es = some alts → ∀ e ∈ es, ∃ al ps, altOf n ops A e = some (al, ps) ∧ (al, ps) ∈ alts
  | [], alts, h, e, he => by cases he
  | e' :: es, alts, h, e, he => by
    unfold altsOf at h
    split at h
    · rename_i x l hx hl
      cases h
      rcases List.mem_cons.1 he with rfl | he
      · exact ⟨x.1, x.2, hx, List.mem_cons_self ..⟩
      · obtain ⟨al, ps, h1, h2⟩ := altsOf_spec hl e he
        exact ⟨al, ps, h1, List.mem_cons_of_mem _ h2⟩
    · cases h
theorem exts_mem {A : List Nat} : ∀ (e rest : List Nat), e.Perm rest → e.Pairwise (fun c r => ancB A c r = false) → e ∈ exts A e.length rest
  | [], rest, _, _ => by simp [exts]
  | c :: e, rest, hp, hw => by
    obtain ⟨hc, hp'⟩ := List.cons_perm_iff_perm_erase.1 hp
    obtain ⟨hw1, hw2⟩ := List.pairwise_cons.1 hw
    simp only [List.length_cons, exts]
    rw [List.mem_flatMap]
    refine ⟨c, hc, ?_⟩
    have hall : rest.all (fun r => r == c || !ancB A c r) = true := by
      rw [List.all_eq_true]
      intro r hr
      rcases List.mem_cons.1 (hp.mem_iff.2 hr) with rfl | h
      · simp
      · simp [hw1 r h]
    rw [if_pos hall, List.mem_map]
    exact ⟨e, exts_mem e _ hp' hw2, rfl⟩
theorem topo_not {ops : Array Oper} : ∀ {l : List Nat} {X : Nat → Prop}, Topo ops X l → ∀ j ∈ l, ¬ X j ∧ j < ops.size
  | [], _, _, j, h => by cases h
  | i :: r, X, ⟨h1, ⟨o, h2, _⟩, h4⟩, j, h => by
    rcases List.mem_cons.1 h with rfl | h
    · exact ⟨h1, (Array.getElem?_eq_some_iff.1 h2).1⟩
    · obtain ⟨q1, q2⟩ := topo_not h4 j h
      exact ⟨fun hx => q1 (.inl hx), q2⟩
theorem topo_nodup {ops : Array Oper} : ∀ {l : List Nat} {X : Nat → Prop}, Topo ops X l → l.Nodup
  | [], _, _ => .nil
  | i :: r, X, ⟨_, _, h4⟩ => List.nodup_cons.2 ⟨fun h => (topo_not h4 i h).1 (.inr rfl), topo_nodup h4⟩
theorem topo_pair {ops : Array Oper} (hac : acyc ops = true) : ∀ {l : List Nat} {X : Nat → Prop}, Topo ops X l → (∀ i o e, X i → ops[i]? = some o → e ∈ edgesOf o → X e) → l.Pairwise (fun c r => ancB (ancT ops) c r = false)
  | [], _, _, _ => .nil
  | i :: r, X, ⟨h1, ⟨o, h2, h3⟩, h4⟩, hX => by
    have hX' : ∀ j oj e, (X j ∨ j = i) → ops[j]? = some oj → e ∈ edgesOf oj → (X e ∨ e = i) := by
      rintro j oj e (hj | rfl) hoj he
      · exact .inl (hX j oj e hj hoj he)
      · rw [h2] at hoj; cases hoj; exact .inl (h3 e he)
    refine List.pairwise_cons.2 ⟨fun j hj => ?_, topo_pair hac h4 hX'⟩
    cases h : ancB (ancT ops) i j with
    | false => rfl
    | true => exact ((topo_not h4 j hj).1 (closed_anc hac (X := fun j => X j ∨ j = i) hX' i j (.inr rfl) h)).elim
section
variable {P : Program}
theorem aopD_dstep {o : AOp} {s : S} {K : S → Prop} (h : aopD P o s K) : ∃ v s', s'.gl = s.gl ∧ DAct P s.gl s.hp s.eval o.op v s'.hp ∧ (∀ t, getF s'.fr t = if o.dst = some t then v else getF s.fr t) ∧ K s' := by
  have fr : ∀ (s : S) (d : Option Nat) v t, getF (s.put d v).fr t = if d = some t then v else getF s.fr t := by
    intro s d v t
    cases d with
    | none => simp [S.put]
    | some u => simp only [S.put, getF, Option.some.injEq]
  have gl : ∀ (s : S) (d : Option Nat) v, (s.put d v).gl = s.gl := fun s d v => by cases d <;> rfl
  have hp : ∀ (s : S) (d : Option Nat) v, (s.put d v).hp = s.hp := fun s d v => by cases d <;> rfl
  unfold aopD aopDH at h
  split at h
  · rename_i p v hv
    exact ⟨v, _, gl _ _ _, by rw [hp]; exact .pure hv h.1, fr _ _ _, h.2⟩
  · split at h
    · rename_i p v hp' hv
      exact ⟨v, ({ s with hp := hp' } : S).put o.dst v, (gl _ _ _).trans rfl, by rw [hp]; exact .heap hv h.1, fr _ _ _, h.2⟩
    · split at h
      · rename_i p v hp' hv
        exact ⟨v, ({ s with hp := hp' } : S).put o.dst v, (gl _ _ _).trans rfl, by rw [hp]; exact .arj hv h.1, fr _ _ _, h.2⟩
      split at h
      · rename_i f args hc
        obtain ⟨h1, r, hp', h2, h3⟩ := h
        exact ⟨r, ({ s with hp := hp' } : S).put o.dst r, (gl _ _ _).trans rfl, by rw [hp]; exact .call hc h1 h2, fr _ _ _, h3⟩
      · split at h
        · rename_i q a b hc
          cases q with
          | true => exact ⟨_, _, gl _ _ _, by rw [hp]; exact .pick hc, fr _ _ _, h.1 rfl⟩
          | false => exact ⟨_, _, gl _ _ _, by rw [hp]; exact .pick hc, fr _ _ _, h.2 rfl⟩
        · split at h
          · rename_i p v hp' hv
            exact ⟨v, ({ s with hp := hp' } : S).put o.dst v, (gl _ _ _).trans rfl, by rw [hp]; exact .frz hv h.1, fr _ _ _, h.2⟩
          · exact h.elim
theorem aopsD_chain : ∀ (al : List AOp) (h : List S) (s : S) (K : List S → S → Prop), aopsD P al h s K →
    ∃ (st : Nat → S), st 0 = s ∧ (∀ (k : Nat) ao, al[k]? = some ao → DStep P ao (st k) (st (k + 1))) ∧ K (h ++ (List.range al.length).map fun k => st (k + 1)) (st al.length)
  | [], h, s, K, hk => ⟨fun _ => s, rfl, fun k ao hk => by simp at hk, by simpa [aopsD] using hk⟩
  | o :: al, h, s, K, hk => by
    have fin : ∀ s', DStep P o s s' → aopsD P al (h ++ [s']) s' K → ∃ (st : Nat → S), st 0 = s ∧ (∀ (k : Nat) ao, (o :: al)[k]? = some ao → DStep P ao (st k) (st (k + 1))) ∧ K (h ++ (List.range (o :: al).length).map fun k => st (k + 1)) (st (o :: al).length) := by
      intro s' hs hr
      obtain ⟨st, h1, h2, h3⟩ := aopsD_chain al _ s' K hr
      refine ⟨fun k => match k with | 0 => s | k + 1 => st k, rfl, fun k ao hk => ?_, ?_⟩
      · cases k with
        | zero => simp at hk; subst hk; show DStep P o s (st 0); rw [h1]; exact hs
        | succ k => simp at hk; exact h2 k ao hk
      · have : h ++ (List.range (o :: al).length).map (fun k => st k) = h ++ [s'] ++ (List.range al.length).map fun k => st (k + 1) := by
          rw [List.length_cons, List.range_succ_eq_map, List.map_cons, List.map_map, h1, List.append_assoc]; rfl
        exact this ▸ h3
    have gl : ∀ (s : S) (d : Option Nat) v, (s.put d v).gl = s.gl := fun s d v => by cases d <;> rfl
    have hp : ∀ (s : S) (d : Option Nat) v, (s.put d v).hp = s.hp := fun s d v => by cases d <;> rfl
    have fr : ∀ (s : S) (d : Option Nat) v t, getF (s.put d v).fr t = if d = some t then v else getF s.fr t := by
      intro s d v t
      cases d with
      | none => simp [S.put]
      | some u => simp only [S.put, getF, Option.some.injEq]
    unfold aopsD at hk
    split at hk
    · rename_i hg
      obtain ⟨v, s', h1, h2, h3, h4⟩ := aopD_dstep hk
      exact fin s' ⟨h1, .inl ⟨v, .inl hg, h2, h3⟩⟩ h4
    · rename_i t want hg
      split at hk
      · rename_i b hb
        by_cases hbw : b = want
        · subst hbw
          have hfr : ∀ u, getF (s.put (some t) (bl b)).fr u = getF s.fr u := by
            intro u; rw [fr]
            by_cases hu : t = u
            · subst hu; rw [if_pos rfl, hb]; rfl
            · rw [if_neg (by simpa using hu)]
          have hev : (s.put (some t) (bl b)).eval = s.eval := by
            funext x
            cases x with
            | tmp u => exact hfr u
            | _ => rfl
          obtain ⟨v, s', h1, h2, h3, h4⟩ := aopD_dstep (hk.1 rfl)
          rw [hev] at h2
          refine fin s' ⟨h1, .inl ⟨v, .inr ⟨t, b, hg, hb⟩, h2, fun u => ?_⟩⟩ h4
          rw [h3 u, hfr]
        · have hbn : b = !want := by cases b <;> cases want <;> simp_all
          refine fin _ ⟨(gl _ _ _).trans (gl _ _ _), .inr ⟨⟨t, want, hg, .inl (by rw [hb, hbn]; rfl)⟩, (hp _ _ _).trans (hp _ _ _), fun u => ?_⟩⟩ (hk.2 hbn)
          rw [fr, fr]
          by_cases hd : o.dst = some u
          · rw [if_pos hd, if_pos hd]
          · rw [if_neg hd, if_neg hd]
            by_cases hu : t = u
            · subst hu; rw [if_pos rfl, hb, hbn]; rfl
            · rw [if_neg (by simpa using hu)]
      · rename_i hb
        exact fin _ ⟨gl _ _ _, .inr ⟨⟨t, want, hg, .inr hb⟩, hp _ _ _, fun u => fr _ _ _ u⟩⟩ hk
      · exact hk.elim
theorem stables_mem {al : List AOp} {st : List S} : ∀ {ps : List (Nat × Nat)}, stables P al st ps → ∀ k l, (k, l) ∈ ps → ∃ a sk sl sm, al[k]? = some a ∧ st[k]? = some sk ∧ st[l]? = some sl ∧ st[l + 1]? = some sm ∧ pureOp P sm.hp sk.eval a.op = pureOp P sl.hp sk.eval a.op
  | [], _, _, _, h => by cases h
  | (k', l') :: ps, hs, k, l, h => by
    rcases List.mem_cons.1 h with h | h
    · cases h
      have := hs.1
      split at this
      · rename_i a sk sl sm h1 h2 h3 h4
        exact ⟨a, sk, sl, sm, h1, h2, h3, h4, this⟩
      · exact this.elim
    · exact stables_mem hs.2 k l h
theorem allAlts_mem {s : S} {K : S → Prop} : ∀ {alts : List (List AOp × List (Nat × Nat))}, allAlts P s K alts → ∀ al ps, (al, ps) ∈ alts → aopsD P al [] s (fun h s' => stables P al (s :: h) ps ∧ K s')
  | [], _, _, _, h => by cases h
  | (al', ps') :: alts, hs, al, ps, h => by
    rcases List.mem_cons.1 h with h | h
    · cases h; exact hs.1
    · exact allAlts_mem hs.2 al ps h
theorem step_draw {w : World} {ok : Nat → Prop} {μ : List MB} {hp : Hp} (hr : HR w ok μ hp) (d : Nat) : Step w ok μ hp { w with drawn := d } ok μ hp :=
  ⟨⟨hr.len, fun i b h => let ⟨m, h1, h2⟩ := hr.rel i b h; ⟨m, h1, BRel.mono (w := w) (w' := { w with drawn := d }) (fun _ _ => rfl) (fun _ h => h) (fun _ _ h => h) h2 fun _ _ => rfl⟩, hr.inj, hr.okn⟩, rfl, rfl, rfl, Nat.le_refl _, fun _ _ _ => rfl, fun _ h => h, fun _ h => .inl h, fun _ h => .inr h, fun _ _ h => h⟩
variable {G : Nat → AV} {k n : Nat} {w w0 : World} {ok ok0 : Nat → Prop} {μ μ0 : List MB} {hp0 : Hp} {s : S} {a : Act}
theorem regD_sound {id : Nat} {ops : Array Oper} {alts : List (List AOp × List (Nat × Nat))} {K : S → Prop} {Q : Exit → Act → World → Prop} (hm : P.follows .mixedOrders = true) (hc : compDraw n ops = some alts) (hst : St n w ok μ s a)
    (hfar : Far k w0 ok0 μ0 hp0 w ok μ s.hp) (hg : s.gl = G) (h : allAlts P s K alts) (hQ : ∀ a w, Holds k n w0 ok0 μ0 hp0 G K a w → Q .normal a w) : (Code.region id ops true).wp P Q a w := by
  refine wp_region_draw fun t => ?_
  rw [hm]
  unfold compDraw at hc
  split at hc
  · rename_i hac
    simp only at hc
    have hsch : Region.schedule true ops t = Region.linearise.go .any ops ops.size t (Array.replicate ops.size false) [] := by
      unfold Region.schedule; simp [Region.linearise]
    rw [hsch]
    have hu : unlisted ops (Array.replicate ops.size false) ≤ ops.size := by
      unfold unlisted
      exact Nat.le_trans (List.length_filter_le ..) (by simp)
    obtain ⟨ht1, ht2⟩ := go_topo hac ops.size t (Array.replicate ops.size false) (by simp) hu
    generalize Region.linearise.go .any ops ops.size t (Array.replicate ops.size false) [] = π at ht1 ht2
    have hno : ∀ j, ¬ ((Array.replicate ops.size false).getD j false = true) := by
      intro j
      rw [Array.getD_eq_getD_getElem?, Array.getElem?_replicate]
      split <;> simp
    have hpi : ∀ j, j < ops.size → j ∈ π := fun j hj => (ht2 j hj).resolve_left (hno j)
    have hcl : ∀ (i : Nat) (o : Oper) (e : Nat), (Array.replicate ops.size false).getD i false = true → ops[i]? = some o → e ∈ edgesOf o → (Array.replicate ops.size false).getD e false = true := fun i _ _ h => (hno i h).elim
    have hperm : π.Perm (List.range ops.size) := (List.perm_ext_iff_of_nodup (topo_nodup ht1) List.nodup_range).2 fun j => ⟨fun hj => List.mem_range.2 (topo_not ht1 j hj).2, fun hj => hpi j (List.mem_range.1 hj)⟩
    have hpe := hperm.filter (effI ops)
    have hmem : π.filter (effI ops) ∈ exts (ancT ops) ((List.range ops.size).filter (effI ops)).length ((List.range ops.size).filter (effI ops)) := by
      rw [← hpe.length_eq]
      exact exts_mem _ _ hpe ((topo_pair hac ht1 hcl).filter _)
    obtain ⟨al, ps, hal, hin⟩ := altsOf_spec hc _ hmem
    obtain ⟨ord, hord⟩ := altOf_spec hal
    obtain ⟨st, hst0, hsteps, hstab, hK⟩ := aopsD_chain al [] s _ (allAlts_mem h al ps hin)
    obtain ⟨hlen, hcomp⟩ := compIdx_spec hord.comp
    have T : Told P G n ops ord al st := by
      refine ⟨hac, hlen, hcomp, hord.nodup, hord.all, hsteps, by rw [hst0]; exact hg, ?_, ?_⟩
      · intro k l i j a b t hne h1 h2 h3 h4 hd hm'
        exact namesOk_spec hord.names hne h1 h2 h3 h4 hd hm'
      · intro k l i j a b h1 h2 h3 h4 hr he hb hkl hlk
        have hmem : (k, l) ∈ ps := by rw [hord.pairs]; exact pairsOf_spec h1 h2 h3 h4 hr he hb hkl hlk
        obtain ⟨a', sk, sl, sm, e1, e2, e3, e4, e5⟩ := stables_mem hstab k l hmem
        rw [h3] at e1; cases e1
        have hget : ∀ q, q ≤ al.length → (s :: ([] ++ (List.range al.length).map fun k => st (k + 1)))[q]? = some (st q) := by
          intro q hq
          cases q with
          | zero => simp [hst0]
          | succ q =>
            have : q < al.length := by omega
            simp [this]
        have hk' := lt_of_getElem? h3
        have hl' := lt_of_getElem? h4
        rw [hget k (by omega)] at e2; cases e2
        rw [hget l (by omega)] at e3; cases e3
        rw [hget (l + 1) (by omega)] at e4; cases e4
        exact e5
    have hd := step_draw hst.hr (w.drawn + 1)
    have hst' := hst.step hd
    refine told_run (k0 := k) (n := n) (w0 := w0) (ok0 := ok0) (μ0 := μ0) (hp0 := hp0) T (Q := Q) ?_ π [] 0 a _ (topo_congr (fun j => ⟨fun h => (hno j h).elim, fun ⟨_, h, _⟩ => by cases h⟩) ht1) (fun k h => by cases h) (fun i o e ⟨_, h, _⟩ => by cases h) (fun i hi => .inr (hpi i hi)) (Nat.zero_le _)
      (fun l _ => ⟨fun h => (by cases h), fun h => (by omega)⟩) ?_ ?_
    · rintro a' w' ⟨ok', μ', q1, q2, q3, q4, q5, q6⟩
      exact hQ a' w' ⟨ok', μ', st al.length, ⟨q1, q2, q3, q4, by rw [T.glk _ (Nat.le_refl _)]; exact q5⟩, q6, T.glk _ (Nat.le_refl _), hK⟩
    · rw [List.drop_zero]; exact hord.eff.symm
    · refine ⟨ok, μ, ?_⟩
      have e1 : ∀ t, valAt st (dstOf al) [] t al.length = getF s.fr t := by
        intro t
        rw [valAt_skip (k := 0) (Nat.zero_le _) (fun l _ _ _ h => by cases h)]
        simp only [valAt, hst0]
      have e2 : hpAt st (effOf al) [] al.length = s.hp := by
        rw [hpAt_skip (k := 0) (Nat.zero_le _) (fun l _ _ _ h => by cases h)]
        simp only [hpAt, hst0]
      rw [e2]
      exact ⟨hst'.hr, hst'.size, hst'.defers, fun t => by rw [e1]; exact hst'.fr t, by have := hst'.gl; intro g ν; rw [← hg]; exact this g ν, hfar.trans hd.far⟩
  · cases hc
end
end Go.Proofs.AE
set_option linter.unusedVariables false
set_option linter.unusedSimpArgs false
namespace Go.Proofs.AE
open Go Go.RowKit
def resV (P : Program) (s : S) : ResultVar → Option AV
  | .tmp t => some (getF s.fr t)
  | .cell t ty => match tiOf P ty with | some i => loadAV i s.hp (getF s.fr t) | none => none
def resVs (P : Program) (s : S) : List ResultVar → Option (List AV)
  | [] => some []
  | r :: rs => match resV P s r, resVs P s rs with | some v, some l => some (v :: l) | _, _ => none
def retAV (P : Program) (s : S) (rs : List ResultVar) : Option AV :=
  match resVs P s rs with
  | some [v] => some v
  | some l => some (.tup l)
  | none => none
def FinX (P : Program) (k : Nat) (rs : List ResultVar) (K : AV → Hp → Prop) (s : S) : Prop :=
  match retAV P s rs with
  | some r0 => ∃ r hp', Out k s.hp r0 hp' r ∧ K r hp'
  | none => False
def finQ (P : Program) (k : Nat) (rs : List ResultVar) (K : AV → Hp → Prop) : Exit → S → Prop
  | .normal, s | .ret, s => FinX P k rs K s
  | _, _ => False
def enterF : Nat → List AV → List (Nat × AV)
  | _, [] => []
  | i, v :: vs => (i, v) :: enterF (i + 1) vs
section
variable {P : Program} {G : Nat → AV} {k n : Nat} {w w0 : World} {ok ok0 : Nat → Prop} {μ μ0 : List MB} {hp hp0 : Hp} {s : S} {a : Act}
theorem enterF_get : ∀ (args : List AV) (xs : List Value) (i : Nat), AVRels w ok μ args xs → ∀ t, AVRel w ok μ (getF (enterF i args) t) ((xs[t - i]?).getD undef) ∨ (t < i ∧ getF (enterF i args) t = .any)
  | [], xs, i, h, t => .inl .any
  | v :: vs, _, i, .cons h ht, t => by
    simp only [enterF, getF]
    by_cases hi : i = t
    · subst hi; rw [if_pos rfl]; left; simpa using h
    · rw [if_neg hi]
      rcases enterF_get vs _ (i + 1) ht t with h1 | ⟨h1, h2⟩
      · by_cases hlt : t < i
        · right
          refine ⟨hlt, ?_⟩
          have : ∀ (l : List AV) (j : Nat), t < j → getF (enterF j l) t = .any := by
            intro l
            induction l with
            | nil => intro j _; rfl
            | cons v l ih => intro j hj; simp only [enterF, getF]; rw [if_neg (by omega)]; exact ih (j + 1) (by omega)
          exact this vs (i + 1) (by omega)
        · left
          rw [show t - i = (t - (i + 1)) + 1 by omega, List.getElem?_cons_succ]; exact h1
      · by_cases hlt : t < i
        · exact .inr ⟨hlt, h2⟩
        · omega
theorem retAV_sound {fn : Func} {rs : List ResultVar} {r : AV} (hrs : fn.results.toList = rs) (hst : St n w ok μ s a) (h : retAV P s rs = some r) :
    ∃ x, (results fn a.tmps).run P w = .ok x w ∧ AVRel w ok μ r x := by
  have one : ∀ (rv : ResultVar) v, resV P s rv = some v → ∃ x, ((match rv with | .tmp t => pure (a.tmps.getD t undef) | .cell q t => do loadVar t (← asAddr (a.tmps.getD q undef)) : Sem Value)).run P w = .ok x w ∧ AVRel w ok μ v x := by
    intro rv v hv
    cases rv with
    | tmp t => cases hv; exact ⟨_, rfl, hst.fr t⟩
    | cell q t =>
      simp only [resV] at hv
      split at hv
      · rename_i i hi
        obtain ⟨ad, cs, xs, hx, hspot, _⟩ := loadAV_cells hst.hr hv (hst.fr q)
        obtain ⟨y, h1, h2⟩ := load_sound (P := P) hst.hr hi hv (hst.fr q)
        refine ⟨y, ?_, h2⟩
        show (do let ad ← asAddr (a.tmps.getD q undef); loadVar t ad : Sem Value).run P w = .ok y w
        rw [hx] at h1 ⊢
        simpa [Instr.loadAt, Instr.sureAddr, asAddr] using h1
      · cases hv
  have many : ∀ (l : List ResultVar) vs, resVs P s l = some vs → ∃ xs, (l.mapM (fun | .tmp t => pure (a.tmps.getD t undef) | .cell q t => do loadVar t (← asAddr (a.tmps.getD q undef)) : ResultVar → Sem Value)).run P w = .ok xs w ∧ AVRels w ok μ vs xs := by
    intro l
    induction l with
    | nil => intro vs h; cases h; exact ⟨[], by simp, .nil⟩
    | cons rv l ih =>
      intro vs h
      unfold resVs at h
      split at h
      · rename_i v vs' hv hvs
        cases h
        obtain ⟨x, h1, h2⟩ := one rv v hv
        obtain ⟨xs, h3, h4⟩ := ih vs' hvs
        refine ⟨x :: xs, ?_, .cons h2 h4⟩
        simp only [List.mapM_cons, Sem.run_bind]
        rw [h1]
        simp only [Result.andThen_ok, Sem.run_bind, h3, Sem.run_pure]
      · cases h
  have hlen : ∀ (vs : List AV) (xs : List Value), AVRels w ok μ vs xs → vs.length = xs.length := by
    intro vs
    induction vs with
    | nil => intro xs h; cases h; rfl
    | cons v vs ih => intro xs h; cases h with | cons _ t => simp [ih _ t]
  unfold retAV at h
  cases hvs : resVs P s rs with
  | none => rw [hvs] at h; cases h
  | some vs =>
    obtain ⟨xs, h1, h2⟩ := many rs vs hvs
    have hl := hlen _ _ h2
    have harr : (fn.results.mapM (fun | .tmp t => pure (a.tmps.getD t undef) | .cell q t => do loadVar t (← asAddr (a.tmps.getD q undef)) : ResultVar → Sem Value)).run P w = .ok xs.toArray w := by
      rw [Array.mapM_eq_mapM_toList, hrs]
      simp only [Sem.run_map, h1, Result.andThen_ok]
    rw [hvs] at h
    have he : (results fn a.tmps).run P w = ((fn.results.mapM (fun | .tmp t => pure (a.tmps.getD t undef) | .cell q t => do loadVar t (← asAddr (a.tmps.getD q undef)) : ResultVar → Sem Value)).run P w).andThen fun vs w' => (pure (if h : vs.size = 1 then vs[0] else .tuple vs) : Sem Value).run P w' := by
      unfold results; rw [Sem.run_bind]; rfl
    rw [he, harr]
    simp only [Result.andThen_ok]
    split at h
    · rename_i v hv
      cases hv; cases h
      match xs, hl, h2 with
      | [x], _, .cons h3 _ => exact ⟨x, by simp, h3⟩
    · rename_i l hne hv
      cases h
      obtain rfl := Option.some.inj hv
      have h1 : ¬ xs.length = 1 := by
        rw [← hl]; intro h1
        obtain ⟨v, hv'⟩ := List.length_eq_one_iff.1 h1
        exact hne v hv'
      refine ⟨.tuple xs.toArray, by simp [h1], .tup (by simpa using h2)⟩
    · rename_i hv; cases hv
theorem liftQ_then {K1 : Exit → S → Prop} {next : S → Prop} :
    ∀ e a w, Holds k n w0 ok0 μ0 hp0 G (thenA next K1 e) a w → Exit.then (fun a w => Holds k n w0 ok0 μ0 hp0 G next a w) (fun e a w => Holds k n w0 ok0 μ0 hp0 G (K1 e) a w) e a w := by
  intro e a w h
  cases e <;> exact h
theorem awp_sound (hm : P.follows .mixedOrders = true) : ∀ (c : Code) (ac : ACode) (Q : Exit → S → Prop) (s : S) (a : Act) (w : World) (ok : Nat → Prop) (μ : List MB), comp n c = some ac → St n w ok μ s a → Far k w0 ok0 μ0 hp0 w ok μ s.hp → s.gl = G → awp P k ac Q s →
    c.wp P (fun e a w => Holds k n w0 ok0 μ0 hp0 G (Q e) a w) a w := by
  intro c
  induction c with
  | skip =>
    intro ac Q s a w ok μ hc hst hfar hg h
    cases hc
    exact wp_skip ⟨ok, μ, s, hst, hfar, hg, h⟩
  | region id ops draw =>
    intro ac Q s a w ok μ hc hst hfar hg h
    cases draw with
    | true =>
      obtain ⟨al, hal, rfl⟩ := Option.map_eq_some_iff.1 hc
      refine regD_sound hm hal hst hfar hg h fun a w h => ?_
      obtain ⟨ok1, μ1, s1, q1, q2, q3, s2, ⟨hgl, hw⟩, hq⟩ := h
      obtain ⟨ok2, μ2, h3, h4⟩ := hw n w ok1 μ1 a q1
      exact ⟨ok2, μ2, s2, h3, q2.trans h4, hgl.trans q3, hq⟩
    | false =>
      obtain ⟨al, hal, rfl⟩ := Option.map_eq_some_iff.1 hc
      exact wp_region_list (aops_sound ops.toList al s a w ok μ _ hal hst hfar hg h fun a w h => h)
  | seq x y ihx ihy =>
    intro ac Q s a w ok μ hc hst hfar hg h
    simp only [comp] at hc
    split at hc
    · rename_i ax ay hx hy
      cases hc
      refine wp_seq (wp_mono (ihx ax _ s a w ok μ hx hst hfar hg h) ?_)
      intro e a' w' hh
      have := liftQ_then e a' w' hh
      cases e with
      | normal =>
        obtain ⟨ok', μ', s', q1, q2, q3, q4⟩ := hh
        exact ihy ay Q s' a' w' ok' μ' hy q1 q2 q3 q4
      | _ => exact this
    · cases hc
  | cond c x y ihx ihy =>
    intro ac Q s a w ok μ hc hst hfar hg h
    simp only [comp] at hc
    split at hc
    · rename_i ax ay hx hy
      cases hc
      simp only [awp] at h
      split at h
      · rename_i b hb
        have hv := hst.eval c
        rw [hb] at hv
        have hv' := lit_rel hv
        exact wp_cond_split hv' (fun hb => ihx ax Q s a w ok μ hx hst hfar hg (h.1 hb)) (fun hb => ihy ay Q s a w ok μ hy hst hfar hg (h.2 hb))
      · exact h.elim
    · cases hc
  | block id c ih =>
    intro ac Q s a w ok μ hc hst hfar hg h
    obtain ⟨ax, hx, rfl⟩ := Option.map_eq_some_iff.1 hc
    refine wp_block (wp_mono (ih ax _ s a w ok μ hx hst hfar hg h) ?_)
    intro e a' w' hh
    cases e with
    | exit id' =>
      simp only [Exit.inBlock]
      split
      · rename_i hid
        exact hh.mono fun s hs => by simpa [blockA, hid] using hs
      · rename_i hid
        exact hh.mono fun s hs => by simpa [blockA, hid] using hs
    | _ => exact hh
  | loop c ih =>
    intro ac Q s a w ok μ hc hst hfar hg h
    obtain ⟨ax, hx, rfl⟩ := Option.map_eq_some_iff.1 hc
    obtain ⟨I, m, ⟨s0, hweak, hI⟩, hround⟩ := h
    obtain ⟨hgl, hw⟩ := hweak
    obtain ⟨ok1, μ1, hst1, hfar1⟩ := hw n w ok μ a hst
    have key : ∀ (q : Nat) (s1 : S) (a1 : Act) (w1 : World) (ok1 : Nat → Prop) (μ1 : List MB), m s1 = q → I s1 → St n w1 ok1 μ1 s1 a1 → Far k w0 ok0 μ0 hp0 w1 ok1 μ1 s1.hp → s1.gl = G →
        ∀ (b : Frame) (kk : List Item) (cs : List Frame), ∃ e a' w', Holds k n w0 ok0 μ0 hp0 G (Q e) a' w' ∧ Arrives P (lone (b.at a1 (.code c :: .inLoop c :: kk)) cs w1) b kk cs e a' w' := by
      intro q
      induction q using Nat.strongRecOn with
      | _ q ihq =>
        intro s1 a1 w1 ok1 μ1 hm hI1 hst1 hfar1 hg1 b kk cs
        have hbody := ih ax _ s1 a1 w1 ok1 μ1 hx hst1 hfar1 hg1 (hround s1 hI1)
        obtain ⟨e, a2, w2, hq, harr⟩ := hbody b (.inLoop c :: kk) cs
        cases e with
        | normal =>
          obtain ⟨ok2, μ2, s2, h1, h2, h3, s3, ⟨hgl3, hw3⟩, hI3, hlt⟩ := hq
          obtain ⟨ok3, μ3, hst3, hfar3⟩ := hw3 n w2 ok2 μ2 a2 h1
          obtain ⟨e4, a4, w4, hq4, harr4⟩ := ihq (m s3) (hm ▸ hlt) s3 a2 w2 ok3 μ3 rfl hI3 hst3 (h2.trans hfar3) (hgl3.trans h3) b kk cs
          exact ⟨e4, a4, w4, hq4, .of_steps (Steps.trans harr (.one step_inLoop)) harr4⟩
        | exit id => exact ⟨_, a2, w2, hq, .pass (x := .inLoop c) rfl (fun _ _ => .inl (by simp)) harr⟩
        | goto l => exact ⟨_, a2, w2, hq, .pass (x := .inLoop c) rfl (fun _ _ => .inl (by simp)) harr⟩
        | ret => exact ⟨_, a2, w2, hq, .pass (x := .inLoop c) rfl (fun _ _ => .inl (by simp)) harr⟩
        | panic ch => exact ⟨_, a2, w2, hq, .pass (x := .inLoop c) rfl (fun _ _ => .inl (by simp)) harr⟩
        | outgrown => exact ⟨_, a2, w2, hq, .pass (x := .inLoop c) rfl (fun _ _ => .inl (by simp)) harr⟩
    intro b kk cs
    obtain ⟨e, a', w', h1, h2⟩ := key _ s0 a w ok1 μ1 rfl hI hst1 (hfar.trans hfar1) (hgl.trans hg) b kk cs
    exact ⟨e, a', w', h1, .of_steps (.one step_loop) h2⟩
  | exit id =>
    intro ac Q s a w ok μ hc hst hfar hg h
    cases hc
    exact wp_exit ⟨ok, μ, s, hst, hfar, hg, h⟩
  | ret =>
    intro ac Q s a w ok μ hc hst hfar hg h
    cases hc
    exact wp_ret ⟨ok, μ, s, hst, hfar, hg, h⟩
  | _ => intro ac Q s a w ok μ hc; cases hc
def GCall (P : Program) (G : Nat → AV) (f : Nat) (k : Nat) (hp : Hp) (args : List AV) (K : AV → Hp → Prop) : Prop :=
  ∀ (w : World) (ok : Nat → Prop) (μ : List MB) (xs : List Value), HR w ok μ hp → GRel w ok G → AVRels w ok μ args xs →
    Calls P f xs.toArray w fun e w' => ∃ x r hp' ok' μ', e = .returned x ∧ Far k w ok μ hp w' ok' μ' hp' ∧ AVRel w' ok' μ' r x ∧ K r hp'
theorem gcall_of (hm : P.follows .mixedOrders = true) {f : Nat} {fn : Func} {c : Code} {ac : ACode} {args : List AV} {kk : Nat} {K : AV → Hp → Prop} (hf : P.funcs[f]? = some fn) (hb : fn.body = some c) (hc : comp fn.ntmps c = some ac) (hn : args.length ≤ fn.ntmps)
    (h : awp P kk ac (finQ P kk fn.results.toList K) ⟨enterF 0 args, G, hp⟩) : GCall P G f kk hp args K := by
  intro w ok μ xs hr hg hargs
  have hlen : ∀ (vs : List AV) (xs : List Value), AVRels w ok μ vs xs → vs.length = xs.length := by
    intro vs
    induction vs with
    | nil => intro xs h; cases h; rfl
    | cons v vs ih => intro xs h; cases h with | cons _ t => simp [ih _ t]
  have hl := hlen _ _ hargs
  have hst : St fn.ntmps w ok μ ⟨enterF 0 args, G, hp⟩ { tmps := xs.toArray ++ Array.replicate (fn.ntmps - xs.toArray.size) undef, defers := [] } := by
    refine ⟨hr, by simp; omega, rfl, fun t => ?_, hg⟩
    rcases enterF_get args xs 0 hargs t with h1 | ⟨h1, _⟩
    · have : (xs.toArray ++ Array.replicate (fn.ntmps - xs.toArray.size) undef).getD t undef = (xs[t]?).getD undef := by
        rw [Array.getD_eq_getD_getElem?, Array.getElem?_append]
        split
        · rename_i h; simp at h; simp [h]
        · rename_i h; simp at h
          rw [List.getElem?_eq_none h, Array.getElem?_replicate]
          split <;> rfl
      rw [this]; simpa using h1
    · omega
  have hfar : Far kk w ok μ hp w ok μ hp := (Step.refl hr).far
  have hwp := awp_sound hm c ac _ _ _ w ok μ hc hst hfar rfl h
  refine calls_of_wp hf hb (wp_mono hwp ?_)
  intro e a' w' hh
  have fin : ∀ a' w', Holds kk fn.ntmps w ok μ hp G (FinX P kk fn.results.toList K) a' w' → a'.defers = [] ∧ ∃ v, (results fn a'.tmps).run P w' = .ok v w' ∧ ∃ x r hp' ok' μ', Ending.returned v = .returned x ∧ Far kk w ok μ hp w' ok' μ' hp' ∧ AVRel w' ok' μ' r x ∧ K r hp' := by
    rintro a' w' ⟨ok1, μ1, s1, h1, h2, h3, hfin⟩
    unfold FinX at hfin
    split at hfin
    · rename_i r0 hret
      obtain ⟨r, hp', hout, hk⟩ := hfin
      obtain ⟨x, hx, hr1⟩ := retAV_sound rfl h1 hret
      obtain ⟨ok2, μ2, hfar2, hr2⟩ := hout w' ok1 μ1 x h1.hr hr1
      have hfar3 := h2.trans hfar2
      exact ⟨h1.defers, x, hx, x, r, hp', ok2, μ2, rfl, hfar3, hr2, hk⟩
    · exact hfin.elim
  cases e with
  | normal => exact fin a' w' hh
  | ret => exact fin a' w' hh
  | exit id => obtain ⟨_, _, _, _, _, _, h⟩ := hh; exact h.elim
  | goto l => obtain ⟨_, _, _, _, _, _, h⟩ := hh; exact h.elim
  | panic c => obtain ⟨_, _, _, _, _, _, h⟩ := hh; exact h.elim
  | outgrown => obtain ⟨_, _, _, _, _, _, h⟩ := hh; exact h.elim
theorem acall_of (hm : P.follows .mixedOrders = true) {f : Nat} {fn : Func} {c : Code} {ac : ACode} {args : List AV} {K : AV → Hp → Prop} (hf : P.funcs[f]? = some fn) (hb : fn.body = some c) (hc : comp fn.ntmps c = some ac) (hn : args.length ≤ fn.ntmps)
    (h : awp P hp.length ac (finQ P hp.length fn.results.toList K) ⟨enterF 0 args, G, hp⟩) : ACall P G f hp args K := by
  intro w ok μ xs hr hg hargs
  refine (gcall_of hm hf hb hc hn h w ok μ xs hr hg hargs).mono ?_
  rintro e w' ⟨x, r, hp', ok', μ', he, hfar, hrel, hk⟩
  rw [← hr.len] at hfar
  exact ⟨x, r, hp', ok', μ', he, hfar.step, hrel, hk⟩
end
end Go.Proofs.AE
set_option linter.unusedVariables false
set_option linter.unusedSimpArgs false
namespace Go.Proofs.AE
open Go Go.RowKit
section
variable {P : Program} {G : Nat → AV} {k n : Nat} {w w' w2 : World} {ok ok' ok2 : Nat → Prop} {μ μ' μ2 : List MB} {hp hp' : Hp}
theorem acall_pure {f : Nat} {args args' : List AV} {K : AV → Prop} (hc : coeAVs hp [] [] args' args) (h : ACall P G f [] args' fun r hp' => hp' = [] ∧ K r) : ACall P G f hp args fun r hp' => hp' = hp ∧ K r := by
  intro w ok μ xs hr hg hargs
  have hv : View w ok μ hp [] [] ok [] := ⟨hr, fun i j m h => by simp at h, fun _ h => h, fun i m b h => by simp at h⟩
  refine (h w ok [] xs (hr_nil fun b hb => (hr.keep hb).1) hg (coeAVs_rel hv hc hargs)).mono ?_
  rintro e w' ⟨x, r, hp', ok', μ', rfl, hs, hrel, rfl, hk⟩
  have hμ' : μ' = [] := List.eq_nil_of_length_eq_zero hs.hr.len
  subst hμ'
  exact ⟨x, r, hp, ok', μ, rfl, step_frame hr hs, hrel.ext (fun i m h => by simp at h), rfl, hk⟩
def PCall (P : Program) (G : Nat → AV) (f : Nat) (args : List AV) (r : AV) : Prop := ACall P G f [] args fun r' hp' => hp' = [] ∧ r' = r
theorem PCall.at {f : Nat} {args args' : List AV} {r : AV} (h : PCall P G f args' r) (hc : coeAVs hp [] [] args' args) : ACall P G f hp args fun r' hp' => hp' = hp ∧ r' = r := acall_pure hc h
end
end Go.Proofs.AE
set_option linter.unusedVariables false
set_option linter.unusedSimpArgs false
namespace Go.Proofs.AE
open Go Go.RowKit
def renC (σ : Nat → Nat) : C → C
  | .ptr i off => .ptr (σ i) off
  | .eptr i r k off => .eptr (σ i) r k off
  | .ar i => .ar (σ i)
  | .sub i k off len c => .sub (σ i) k off len c
  | .mp i => .mp (σ i)
  | c => c
mutual
def renAV (σ : Nat → Nat) : AV → AV
  | .one c => .one (renC σ c)
  | .agg cs => .agg (cs.map (renC σ))
  | .tup l => .tup (renAVs σ l)
  | .fn f a b => .fn f (a.map (renC σ)) (b.map (renC σ))
  | .any => .any
def renAVs (σ : Nat → Nat) : List AV → List AV
  | [] => []
  | v :: l => renAV σ v :: renAVs σ l
end
def renO (σ : Nat → Nat) : Option Blk → Option Blk
  | some (.box t cs) => some (.box t (cs.map (renC σ)))
  | b => b
def posOf (q : Nat) : List Nat → Option Nat
  | [] => none
  | a :: r => if a = q then some 0 else (posOf q r).map (· + 1)
def sig (ρ : List Nat) (k d : Nat) (i : Nat) : Nat := if i < k then ρ.getD i 0 else d + (i - k)
def mrg (ρ : List Nat) (k : Nat) (σ : Nat → Nat) (hp' : Hp) : Nat → Hp → Hp
  | _, [] => []
  | q, b :: r => (match posOf q ρ with | some i => if i < k then renO σ (hp'.getD i none) else none | none => b) :: mrg ρ k σ hp' (q + 1) r
def mergeH (hpc : Hp) (ρ : List Nat) (k : Nat) (hp' : Hp) : Hp := mrg ρ k (sig ρ k hpc.length) hp' 0 hpc ++ (hp'.drop k).map (renO (sig ρ k hpc.length))
section
variable {P : Program} {G : Nat → AV} {k n : Nat} {w w' : World} {ok ok' : Nat → Prop} {μ μ' : List MB} {hp hp' : Hp} {σ : Nat → Nat}
theorem renC_rel (h : ∀ (i : Nat) m, μ[i]? = some m → μ'[σ i]? = some m) {c : C} {x : Value} (hr : CRel w ok μ c x) : CRel w ok μ' (renC σ c) x := by
  cases hr with
  | v h1 => exact .v h1
  | ptr off h1 => exact .ptr off (h _ _ h1)
  | eptr r k off h1 => exact .eptr r k off (h _ _ h1)
  | ar h1 h2 => exact .ar (h _ _ h1) h2
  | sub k off len c h1 hs => exact .sub k off len c (h _ _ h1) hs
  | mp h1 => exact .mp (h _ _ h1)
  | vptr b off cv a b' c => exact .vptr _ _ _ a b' c
  | full h1 => exact .full h1
  | nil => exact .nil
  | any h1 => exact .any h1
theorem renCs_rel (h : ∀ (i : Nat) m, μ[i]? = some m → μ'[σ i]? = some m) {cs : List C} {xs : List Value} (hr : All2 (CRel w ok μ) cs xs) : All2 (CRel w ok μ') (cs.map (renC σ)) xs := by
  induction hr with
  | nil => exact .nil
  | cons h1 _ ih => exact .cons (renC_rel h h1) ih
mutual
theorem renAV_rel (h : ∀ (i : Nat) m, μ[i]? = some m → μ'[σ i]? = some m) : ∀ {v : AV} {x : Value}, AVRel w ok μ v x → AVRel w ok μ' (renAV σ v) x
  | .one _, _, .one h1 => .one (renC_rel h h1)
  | .agg _, _, .agg h1 => .agg (renCs_rel h h1)
  | .tup _, _, .tup h1 => .tup (renAVs_rel h h1)
  | .fn _ _ _, _, .fn h1 h2 => .fn (renCs_rel h h1) (renCs_rel h h2)
  | .any, _, _ => .any
theorem renAVs_rel (h : ∀ (i : Nat) m, μ[i]? = some m → μ'[σ i]? = some m) : ∀ {l : List AV} {xs : List Value}, AVRels w ok μ l xs → AVRels w ok μ' (renAVs σ l) xs
  | [], _, .nil => .nil
  | _ :: _, _, .cons h1 t => .cons (renAV_rel h h1) (renAVs_rel h t)
end
theorem renO_rel (h : ∀ (i : Nat) m, μ[i]? = some m → μ'[σ i]? = some m) {b b' : Blk} {m : MB} (he : renO σ (some b) = some b') (hb : BRel w ok μ b m) : BRel w ok μ' b' m := by
  cases b with
  | box t cs =>
    simp only [renO, Option.some.injEq] at he; subst he
    cases m with
    | box q => obtain ⟨xs, g1, g2⟩ := hb; exact ⟨xs, g1, renCs_rel h g2⟩
    | arr => exact hb.elim
  | arr e kk rows =>
    simp only [renO, Option.some.injEq] at he; subst he
    cases m with
    | box q => exact hb.elim
    | arr x => exact hb
  | arj e kk n rows =>
    simp only [renO, Option.some.injEq] at he; subst he
    cases m with
    | box q => exact hb.elim
    | arr x => exact hb
  | mp t es =>
    simp only [renO, Option.some.injEq] at he; subst he
    cases m with
    | box q => exact hb
    | arr x => exact hb.elim
theorem posOf_spec {q : Nat} : ∀ {ρ : List Nat} {i : Nat}, posOf q ρ = some i → ρ[i]? = some q
  | [], i, h => by simp [posOf] at h
  | a :: r, i, h => by
    unfold posOf at h
    split at h
    · rename_i e; cases h; simpa using e
    · obtain ⟨j, hj, rfl⟩ := Option.map_eq_some_iff.1 h
      simpa using posOf_spec hj
theorem posOf_none {q : Nat} : ∀ {ρ : List Nat}, posOf q ρ = none → q ∉ ρ
  | [], _ => by simp
  | a :: r, h => by
    unfold posOf at h
    split at h
    · cases h
    · rename_i e
      have := posOf_none (by simpa using h : posOf q r = none)
      simp; exact ⟨fun e' => e e'.symm, this⟩
theorem mrg_length (ρ : List Nat) (k : Nat) (hp' : Hp) : ∀ (q : Nat) (hpc : Hp), (mrg ρ k σ hp' q hpc).length = hpc.length
  | _, [] => rfl
  | q, _ :: r => by simp [mrg, mrg_length ρ k hp' (q + 1) r]
theorem mrg_get (ρ : List Nat) (k : Nat) (hp' : Hp) : ∀ (hpc : Hp) (q j : Nat), (mrg ρ k σ hp' q hpc)[j]? = (hpc[j]?).map fun b => match posOf (q + j) ρ with | some i => if i < k then renO σ (hp'.getD i none) else none | none => b
  | [], q, j => by simp [mrg]
  | b :: r, q, 0 => by simp [mrg]
  | b :: r, q, j + 1 => by
    simp only [mrg, List.getElem?_cons_succ]
    rw [mrg_get ρ k hp' r (q + 1) j, show q + 1 + j = q + (j + 1) by omega]
theorem mergeH_get {hpc : Hp} {ρ : List Nat} {q : Nat} {b : Blk} (hlen : ρ.length = hp.length) (hk : k ≤ hp.length) (h : (mergeH hpc ρ k hp')[q]? = some (some b)) :
    (hpc[q]? = some (some b) ∧ q ∉ ρ) ∨ ∃ i b0, hp'[i]? = some (some b0) ∧ renO (sig ρ k hpc.length) (some b0) = some b ∧ q = sig ρ k hpc.length i ∧ (i < k → q < hpc.length) ∧ (k ≤ i → hpc.length ≤ q) := by
  unfold mergeH at h
  by_cases hq : q < hpc.length
  · rw [List.getElem?_append_left (by rw [mrg_length]; exact hq), mrg_get, List.getElem?_eq_getElem hq] at h
    simp only [Option.map_some, Nat.zero_add, Option.some.injEq] at h
    split at h
    · rename_i i hi
      split at h
      · rename_i hik
        right
        cases hb : hp'.getD i none with
        | none => rw [hb] at h; simp [renO] at h
        | some b0 =>
          have hb' : hp'[i]? = some (some b0) := by
            rw [List.getD_eq_getElem?_getD] at hb
            cases hx : hp'[i]? with
            | none => rw [hx] at hb; simp at hb
            | some y => rw [hx] at hb; simpa using hb
          rw [hb] at h
          have hs := posOf_spec hi
          refine ⟨i, b0, hb', h, ?_, fun _ => hq, fun hki => by omega⟩
          simp [sig, hik, List.getD_eq_getElem?_getD, hs]
      · cases h
    · rename_i hn
      exact .inl ⟨by rw [List.getElem?_eq_getElem hq, h], posOf_none hn⟩
  · right
    rw [List.getElem?_append_right (by rw [mrg_length]; omega), mrg_length, List.getElem?_map, List.getElem?_drop] at h
    cases hx : hp'[k + (q - hpc.length)]? with
    | none => rw [hx] at h; simp at h
    | some y =>
      rw [hx] at h
      cases y with
      | none => simp [renO] at h
      | some b0 =>
        refine ⟨_, b0, hx, by simpa using h, ?_, fun hi => by omega, fun _ => by omega⟩
        unfold sig
        rw [if_neg (by omega)]; omega
theorem view_sub {hpc : Hp} {ρ : List Nat} (hr : HR w ok μ hpc) (hlen : ρ.length = hp.length) (hnd : ρ.Nodup) (hh : coeH hpc [] ρ 0 hp) :
    View w ok μ hpc [] ρ ok (ρ.map fun j => μ.getD j (.box 0)) ∧ HR w ok (ρ.map fun j => μ.getD j (.box 0)) hp ∧ ∀ b, OwnL hp (ρ.map fun j => μ.getD j (.box 0)) b → ∃ (j : Nat) (blk : Blk) (m : MB), j ∈ ρ ∧ hpc[j]? = some (some blk) ∧ μ[j]? = some m ∧ m.own = some b := by
  have hμ : ∀ (i j : Nat) m, ρ[i]? = some j → μ[j]? = some m → (ρ.map fun j => μ.getD j (.box 0))[i]? = some m := by
    intro i j m h1 h2
    rw [List.getElem?_map, h1]
    simp [List.getD, h2]
  have hinv : ∀ (i : Nat) b, hp[i]? = some (some b) → ∃ j b', ρ[i]? = some j ∧ hpc[j]? = some (some b') ∧ coeB hpc [] ρ b b' := by
    intro i b h; have := coeH_get hh i b h; rwa [Nat.zero_add] at this
  have hm : ∀ (i j : Nat) m, ρ[i]? = some j → (∃ b, hpc[j]? = some (some b)) → (ρ.map fun j => μ.getD j (.box 0))[i]? = some m → μ[j]? = some m := by
    intro i j m h1 ⟨b, hb⟩ h2
    obtain ⟨q, hq, _⟩ := hr.rel j b hb
    rw [List.getElem?_map, h1] at h2
    simp [List.getD, hq] at h2
    rw [hq, h2]
  have hown : ∀ b, OwnL hp (ρ.map fun j => μ.getD j (.box 0)) b → ∃ (j : Nat) (blk : Blk) (m : MB), j ∈ ρ ∧ hpc[j]? = some (some blk) ∧ μ[j]? = some m ∧ m.own = some b := by
    rintro b ⟨i, blk, m, h1, h2, h3⟩
    obtain ⟨j, b', g1, g2, g3⟩ := hinv i blk h1
    exact ⟨j, b', m, List.mem_of_getElem? g1, g2, hm i j m g1 ⟨b', g2⟩ h2, h3⟩
  have hv : View w ok μ hpc [] ρ ok (ρ.map fun j => μ.getD j (.box 0)) := ⟨hr, hμ, fun b h => h, fun i m b h1 => by simp at h1⟩
  refine ⟨hv, ⟨by simp [hlen], ?_, ?_, ?_⟩, hown⟩
  · intro i b hb
    obtain ⟨j, b', g1, g2, g3⟩ := hinv i b hb
    obtain ⟨m, q1, q2⟩ := hr.rel j b' g2
    exact ⟨m, hμ i j m g1 q1, coeB_rel hv g3 q2⟩
  · intro i j b c m q kk hij hb hc hm1 hm2 ho
    obtain ⟨i', b', g1, g2, _⟩ := hinv i b hb
    obtain ⟨j', c', e1, e2, _⟩ := hinv j c hc
    have hne : i' ≠ j' := fun e => hij (getElem?_nodup hnd g1 (e ▸ e1))
    exact hr.inj i' j' b' c' m q kk hne g2 e2 (hm i i' m g1 ⟨b', g2⟩ hm1) (hm j j' q e1 ⟨c', e2⟩ hm2) ho
  · intro kk hkk
    refine ⟨(hr.keep hkk).1, fun i b m h1 h2 h3 => ?_⟩
    obtain ⟨j, blk, m', _, e1, e2, e3⟩ := hown kk ⟨i, b, m, h1, h2, h3⟩
    exact (hr.okn kk hkk).2 j blk m' e1 e2 e3
theorem gcall_sub {f : Nat} {hpc : Hp} {ρ : List Nat} {args argsc : List AV} {K : AV → Hp → Prop} (h : GCall P G f k hp args K) (hlen : ρ.length = hp.length) (hk : k ≤ hp.length) (hnd : ρ.Nodup) (hlt : ∀ j ∈ ρ, j < hpc.length)
    (hh : coeH hpc [] ρ 0 hp) (ha : coeAVs hpc [] ρ args argsc) : ACall P G f hpc argsc fun r1 hp1 => ∃ r hp', K r hp' ∧ r1 = renAV (sig ρ k hpc.length) r ∧ hp1 = mergeH hpc ρ k hp' := by
  intro w ok μ xs hr hg hargs
  obtain ⟨hv, hr0, hown⟩ := view_sub hr hlen hnd hh
  refine (h w ok _ xs hr0 hg (coeAVs_rel hv ha hargs)).mono ?_
  rintro e w' ⟨x, r, hp', ok', μ', rfl, hf, hrel, hK⟩
  generalize hμ0 : (ρ.map fun j => μ.getD j (.box 0)) = μ0 at *
  have hμ0len : μ0.length = hp.length := hr0.len
  have hownc : ∀ b, OwnL hp μ0 b → OwnL hpc μ b := fun b h => let ⟨j, blk, m, _, h2, h3, h4⟩ := hown b h; ⟨j, blk, m, h2, h3, h4⟩
  have hext : ∀ (i : Nat) m, μ[i]? = some m → (μ ++ μ'.drop k)[i]? = some m := fun i m h => by rw [List.getElem?_append_left (lt_of_getElem? h)]; exact h
  have hsig : ∀ (i : Nat) m, μ'[i]? = some m → (μ ++ μ'.drop k)[sig ρ k hpc.length i]? = some m := by
    intro i m hi
    unfold sig
    split
    · rename_i hik
      have h1 : i < ρ.length := by omega
      have h2 : μ0[i]? = some (μ0[i]'(by omega)) := List.getElem?_eq_getElem _
      have h3 := hf.ext i _ hik h2
      rw [hi] at h3
      have hj : ρ[i]? = some ρ[i] := List.getElem?_eq_getElem h1
      have hjlt := hlt _ (List.mem_of_getElem? hj)
      have h4 : μ[ρ[i]]? = some (μ[ρ[i]]'(by rw [hr.len]; exact hjlt)) := List.getElem?_eq_getElem _
      have h5 := hv.hμ i _ _ hj h4
      rw [h2, ← h3] at h5
      have h6 := hext _ _ h4
      rw [List.getD_eq_getElem?_getD, hj, Option.getD_some, h6]; exact h5.symm
    · rename_i hik
      rw [List.getElem?_append_right (by rw [hr.len]; omega), hr.len, List.getElem?_drop, show k + (hpc.length + (i - k) - hpc.length) = i by omega]; exact hi
  have hsame : ∀ b, b < w.heap.size → ¬ OwnL hp μ0 b → w'.heap[b]? = w.heap[b]? := hf.frame
  have hokw : ∀ b, ok b → w'.heap[b]? = w.heap[b]? := fun b hb => hsame b (hr0.keep hb).1 (hr0.keep hb).2
  have hother : ∀ (q : Nat) b m c, hpc[q]? = some (some b) → q ∉ ρ → μ[q]? = some m → m.own = some c → ¬ OwnL hp μ0 c := by
    intro q b m c h1 h2 h3 h4 h5
    obtain ⟨j, blk, m', e0, e1, e2, e3⟩ := hown c h5
    exact hr.inj q j b blk m m' c (fun e => h2 (e ▸ e0)) h1 e1 h3 e2 h4 e3
  have hμlen : (μ ++ μ'.drop k).length = (mergeH hpc ρ k hp').length := by
    simp [mergeH, mrg_length, hr.len, hf.hr.len]
  have hcase : ∀ (q : Nat) b, (mergeH hpc ρ k hp')[q]? = some (some b) →
      (hpc[q]? = some (some b) ∧ q ∉ ρ ∧ ∃ m, μ[q]? = some m ∧ (μ ++ μ'.drop k)[q]? = some m ∧ BRel w ok μ b m) ∨
      ∃ i b0 m, hp'[i]? = some (some b0) ∧ renO (sig ρ k hpc.length) (some b0) = some b ∧ q = sig ρ k hpc.length i ∧ μ'[i]? = some m ∧ (μ ++ μ'.drop k)[q]? = some m ∧ BRel w' ok' μ' b0 m := by
    intro q b hq
    rcases mergeH_get (hp := hp) hlen hk hq with ⟨h1, h2⟩ | ⟨i, b0, h1, h2, h3, _, _⟩
    · obtain ⟨m, h3, h4⟩ := hr.rel q b h1
      exact .inl ⟨h1, h2, m, h3, hext _ _ h3, h4⟩
    · obtain ⟨m, h4, h5⟩ := hf.hr.rel i b0 h1
      exact .inr ⟨i, b0, m, h1, h2, h3, h4, h3 ▸ hsig _ _ h4, h5⟩
  have hownm : ∀ b, OwnL (mergeH hpc ρ k hp') (μ ++ μ'.drop k) b → (∃ (q : Nat) (blk : Blk) (m : MB), hpc[q]? = some (some blk) ∧ q ∉ ρ ∧ μ[q]? = some m ∧ m.own = some b) ∨ OwnL hp' μ' b := by
    rintro b ⟨q, blk, m, h1, h2, h3⟩
    rcases hcase q blk h1 with ⟨e1, e2, m', e3, e4, e5⟩ | ⟨i, b0, m', e1, e2, e3, e4, e5, e6⟩
    · rw [h2] at e4; cases e4; exact .inl ⟨q, blk, m, e1, e2, e3, h3⟩
    · rw [h2] at e5; cases e5; exact .inr ⟨i, b0, m, e1, e4, h3⟩
  refine ⟨x, _, _, ok', μ ++ μ'.drop k, rfl, ⟨⟨hμlen, ?_, ?_, ?_⟩, hf.os, hf.tape, hf.output, hf.size, fun b hb hn => hsame b hb fun h => hn (hownc b h), hf.oksub, ?_, ?_, hext⟩, renAV_rel hsig hrel, r, hp', hK, rfl, rfl⟩
  · intro q b hq
    rcases hcase q b hq with ⟨e1, e2, m, e3, e4, e5⟩ | ⟨i, b0, m, e1, e2, e3, e4, e5, e6⟩
    · refine ⟨m, e4, e5.mono hokw hf.oksub hext fun c hc => hsame c (e5.lt hc) (hother q b m c e1 e2 e3 hc)⟩
    · exact ⟨m, e5, renO_rel hsig e2 e6⟩
  · intro q1 q2 b c m1 m2 z hne hb hc hm1 hm2 hz hz'
    rcases hcase q1 b hb with ⟨a1, a2, m, a3, a4, a5⟩ | ⟨i, b0, m, a1, a2, a3, a4, a5, a6⟩ <;> rcases hcase q2 c hc with ⟨c1, c2, m', c3, c4, c5⟩ | ⟨i', b0', m', c1, c2, c3, c4, c5, c6⟩
    · rw [a4] at hm1; cases hm1; rw [c4] at hm2; cases hm2
      exact hr.inj q1 q2 b c m1 m2 z hne a1 c1 a3 c3 hz hz'
    · rw [a4] at hm1; cases hm1; rw [c5] at hm2; cases hm2
      rcases hf.ownfrom z ⟨i', b0', m2, c1, c4, hz'⟩ with h | h
      · have := a5.lt hz; omega
      · exact hother q1 b m1 z a1 a2 a3 hz h
    · rw [a5] at hm1; cases hm1; rw [c4] at hm2; cases hm2
      rcases hf.ownfrom z ⟨i, b0, m1, a1, a4, hz⟩ with h | h
      · have := c5.lt hz'; omega
      · exact hother q2 c m2 z c1 c2 c3 hz' h
    · rw [a5] at hm1; cases hm1; rw [c5] at hm2; cases hm2
      have : i ≠ i' := fun e => hne (by rw [a3, c3, e])
      exact hf.hr.inj i i' b0 b0' m1 m2 z this a1 c1 a4 c4 hz hz'
  · intro z hz
    refine ⟨(hf.hr.okn z hz).1, fun q b m hq hm hz' => ?_⟩
    rcases hownm z ⟨q, b, m, hq, hm, hz'⟩ with ⟨q', blk, m', e1, e2, e3, e4⟩ | e
    · rcases hf.okfrom z hz with h | h | h
      · exact (hr.okn z h).2 q' blk m' e1 e3 e4
      · have := hr.own_lt ⟨q', blk, m', e1, e3, e4⟩; omega
      · exact hother q' blk m' z e1 e2 e3 e4 h
    · obtain ⟨i, b0, m0, e1, e2, e3⟩ := e
      exact (hf.hr.okn z hz).2 i b0 m0 e1 e2 e3
  · intro z hz
    rcases hf.okfrom z hz with h | h | h
    · exact .inl h
    · exact .inr (.inl h)
    · exact .inr (.inr (hownc z h))
  · intro z hz
    rcases hownm z hz with ⟨q', blk, m', e1, e2, e3, e4⟩ | e
    · exact .inr ⟨q', blk, m', e1, e3, e4⟩
    · rcases hf.ownfrom z e with h | h
      · exact .inl h
      · exact .inr (hownc z h)
end
end Go.Proofs.AE
set_option linter.unusedVariables false
set_option linter.unusedSimpArgs false
namespace Go.Proofs.AE
open Go Go.RowKit
abbrev Mp := List (Nat × Nat)
def mpGet : Mp → Nat → Option Nat
  | [], _ => none
  | (a, b) :: r, i => bif a == i then some b else mpGet r i
def mpAdd (m : Mp) (i j : Nat) : Mp := match mpGet m i with | some _ => m | none => (i, j) :: m
def mC : Mp → C → C → Mp
  | m, .ptr i _, .ptr j _ => mpAdd m i j
  | m, .eptr i _ _ _, .eptr j _ _ _ => mpAdd m i j
  | m, .ar i, .ar j => mpAdd m i j
  | m, .sub i _ _ _ _, .sub j _ _ _ _ => mpAdd m i j
  | m, .mp i, .mp j => mpAdd m i j
  | m, _, _ => m
def mCs : Mp → List C → List C → Mp
  | m, c :: cs, d :: ds => mCs (mC m c d) cs ds
  | m, _, _ => m
mutual
def mAV : Mp → AV → AV → Mp
  | m, .one c, .one d => mC m c d
  | m, .agg cs, .agg ds => mCs m cs ds
  | m, .tup l, .tup l' => mAVs m l l'
  | m, .fn _ a b, .fn _ c d => mCs (mCs m a c) b d
  | m, _, _ => m
def mAVs : Mp → List AV → List AV → Mp
  | m, v :: l, u :: l' => mAVs (mAV m v u) l l'
  | m, _, _ => m
end
def mF : Mp → List (Nat × AV) → List (Nat × AV) → Mp
  | m, (t, v) :: r, fr => mF (mAV m v (getF fr t)) r fr
  | m, [], _ => m
def mB : Mp → Blk → Blk → Mp
  | m, .box _ cs, .box _ ds => mCs m cs ds
  | m, _, _ => m
def mO (m : Mp) (b : Blk) : Option (Option Blk) → Mp
  | some (some b') => mB m b b'
  | _ => m
def mH (hpS : Hp) : Nat → Hp → Mp → Mp
  | _, [], m => m
  | i, none :: r, m => mH hpS (i + 1) r m
  | i, some b :: r, m => mH hpS (i + 1) r (match mpGet m i with | some j => mO m b hpS[j]? | none => m)
def mkρ (m : Mp) (d : Nat) : Nat → Hp → List Nat
  | _, [] => []
  | i, _ :: r => (mpGet m i).getD (d + i) :: mkρ m d (i + 1) r
def idMp : Nat → Mp
  | 0 => []
  | k + 1 => (k, k) :: idMp k
def memB (i : Nat) : List Nat → Bool
  | [] => false
  | a :: r => a == i || memB i r
def nodupB : List Nat → Bool
  | [] => true
  | a :: r => !memB a r && nodupB r
def idB (k : Nat) : Nat → List Nat → Bool
  | _, [] => true
  | i, j :: r => (decide (k ≤ i) || i == j) && idB k (i + 1) r
def complB (ρ : List Nat) : Nat → Hp → List Nat
  | _, [] => []
  | i, _ :: r => bif memB i ρ then complB ρ (i + 1) r else i :: complB ρ (i + 1) r
def allLt (n : Nat) : List Nat → Bool
  | [] => true
  | a :: r => decide (a < n) && allLt n r
theorem memB_iff {i : Nat} : ∀ {l : List Nat}, memB i l = true ↔ i ∈ l
  | [] => by simp [memB]
  | a :: r => by
    simp only [memB, Bool.or_eq_true, memB_iff (l := r), List.mem_cons, beq_iff_eq]
    constructor <;> rintro (h | h) <;> first | exact .inl h.symm | exact .inr h
theorem nodupB_iff : ∀ {l : List Nat}, nodupB l = true → l.Nodup
  | [], _ => .nil
  | a :: r, h => by
    simp only [nodupB, Bool.and_eq_true, Bool.not_eq_true'] at h
    rw [List.nodup_cons]
    exact ⟨fun hm => by rw [memB_iff.2 hm] at h; simp at h, nodupB_iff h.2⟩
theorem idB_spec {k : Nat} : ∀ {l : List Nat} {i : Nat}, idB k i l = true → ∀ q, i + q < k → q < l.length → l[q]? = some (i + q)
  | [], _, _, q, _, h => by simp at h
  | a :: r, i, h, q, hq, hl => by
    simp only [idB, Bool.and_eq_true, Bool.or_eq_true] at h
    cases q with
    | zero =>
      have h1 : ¬ (decide (k ≤ i) = true) := by rw [decide_eq_true_eq]; omega
      have h2 := eq_of_beq (h.1.resolve_left h1)
      simp [← h2]
    | succ q =>
      have := idB_spec h.2 q (by omega) (by simpa using hl)
      rw [List.getElem?_cons_succ, this]; congr 1; omega
theorem complB_mem {ρ : List Nat} : ∀ {hp : Hp} {i j : Nat}, j ∈ complB ρ i hp → j ∉ ρ
  | [], _, _, h => by simp [complB] at h
  | _ :: r, i, j, h => by
    unfold complB at h
    cases hm : memB i ρ with
    | true => rw [hm] at h; exact complB_mem (hp := r) h
    | false =>
      rw [hm] at h
      rcases List.mem_cons.1 h with rfl | h
      · intro hc; rw [memB_iff.2 hc] at hm; cases hm
      · exact complB_mem (hp := r) h
theorem mkρ_length {m : Mp} {d : Nat} : ∀ {hp : Hp} {i : Nat}, (mkρ m d i hp).length = hp.length
  | [], _ => rfl
  | _ :: r, i => by simp [mkρ, mkρ_length (hp := r)]
theorem allLt_spec {n : Nat} : ∀ {l : List Nat}, allLt n l = true → ∀ j ∈ l, j < n
  | [], _, _, h => by simp at h
  | a :: r, h, j, hj => by
    simp only [allLt, Bool.and_eq_true] at h
    rcases List.mem_cons.1 hj with rfl | hj
    · exact of_decide_eq_true h.1
    · exact allLt_spec h.2 j hj
def WA2 (k : Nat) (s s' : S) (ρ : List Nat) : Prop := (nodupB ρ && idB k 0 ρ && decide (k ≤ ρ.length)) = true ∧ coeF s.hp (complB ρ 0 s.hp) ρ s.fr s'.fr ∧ coeH s.hp (complB ρ 0 s.hp) ρ 0 s'.hp
def WA (k : Nat) (s s' : S) : Prop := s'.gl = s.gl ∧ WA2 k s s' (mkρ (mH s.hp 0 s'.hp (mF (idMp k) s'.fr s.fr)) s.hp.length 0 s'.hp)
theorem weak_auto {k : Nat} {s s' : S} (h : WA k s s') : Weak k s s' := by
  obtain ⟨h0, h1, h2, h3⟩ := h
  simp only [Bool.and_eq_true, decide_eq_true_eq] at h1
  exact weak_of _ _ h0 mkρ_length (nodupB_iff h1.1.1) (fun i hi => complB_mem hi) (fun i hk hi => by simpa using idB_spec h1.1.2 i (by omega) (by omega)) h2 h3
def OA2 (k : Nat) (hp : Hp) (r0 : AV) (hp' : Hp) (r : AV) (ρ : List Nat) : Prop := (nodupB ρ && idB k 0 ρ && decide (k ≤ ρ.length)) = true ∧ coeAV hp (complB ρ 0 hp) ρ r r0 ∧ coeH hp (complB ρ 0 hp) ρ 0 hp'
def OA (k : Nat) (hp : Hp) (r0 : AV) (hp' : Hp) (r : AV) : Prop := OA2 k hp r0 hp' r (mkρ (mH hp 0 hp' (mAV (idMp k) r r0)) hp.length 0 hp')
theorem out_auto {k : Nat} {hp : Hp} {r0 : AV} {hp' : Hp} {r : AV} (h : OA k hp r0 hp' r) : Out k hp r0 hp' r := by
  obtain ⟨h1, h2, h3⟩ := h
  simp only [Bool.and_eq_true, decide_eq_true_eq] at h1
  exact out_of _ _ mkρ_length (nodupB_iff h1.1.1) (fun i hi => complB_mem hi) (fun i hk hi => by simpa using idB_spec h1.1.2 i (by omega) (by omega)) h2 h3
def thawR (hp : Hp) (r0 r : AV) (hp' : Hp) : Option (Prop × Hp × AV) :=
  match r0, r with
  | .one .nil, .one (.ar i) => match hp'[i]? with
    | some (some (.arr e k rows)) => some (0 < k, hp ++ [some (.arr e k [])], .one (.ar hp.length))
    | _ => none
  | _, _ => none
theorem thaw_step {w : World} {ok : Nat → Prop} {μ : List MB} {hp hp1 hp' : Hp} {r0 r r1 : AV} {x : Value} {p : Prop} (hr : HR w ok μ hp) (hv : AVRel w ok μ r0 x) (h : thawR hp r0 r hp' = some (p, hp1, r1)) (hp0 : p) : ∃ μ', Step w ok μ hp w ok μ' hp1 ∧ AVRel w ok μ' r1 x := by
  unfold thawR at h
  split at h
  · split at h
    · rename_i e k rows _
      cases h
      have hx : x = .slice none 0 0 := by cases hv with | one hc => cases hc; rfl
      subst hx
      exact ⟨_, arr_sound (w' := w) (e := e) (k := k) (rows := []) (xs := []) (x := .slice none 0 0) hr rfl rfl rfl (Nat.le_refl _) (fun _ _ => rfl) (World.ownsRow_nil w 0 e k) .nil (fun _ h => by simp at h) (fun b hb => by cases hb)⟩
    · cases h
  · cases h
def FinG (P : Program) (k : Nat) (rs : List ResultVar) (r : AV) (hp' : Hp) (s : S) : Prop :=
  match retAV P s rs with
  | some r0 => match narrowR s.hp r0 with
    | some (p, hp1, r1) => p ∧ OA k hp1 r1 hp' r
    | none => match thawR s.hp r0 r hp' with
      | some (p, hp1, r1) => p ∧ OA k hp1 r1 hp' r
      | none => OA k s.hp r0 hp' r
  | none => False
def finG (P : Program) (k : Nat) (rs : List ResultVar) (r : AV) (hp' : Hp) : Exit → S → Prop
  | .normal, s | .ret, s => FinG P k rs r hp' s
  | _, _ => False
def DetCall (P : Program) (G : Nat → AV) (f k : Nat) (hp : Hp) (args : List AV) (r : AV) (hp' : Hp) : Prop := GCall P G f k hp args fun r1 hp1 => r1 = r ∧ hp1 = hp'
def invρ (ρ : List Nat) (j : Nat) : Nat := match go ρ 0 with | some i => i | none => 0
where go : List Nat → Nat → Option Nat
  | [], _ => none
  | a :: r, i => bif a == j then some i else go r (i + 1)
def nrmC (ρ : List Nat) : C → C
  | .ptr i off => .ptr (invρ ρ i) off
  | .eptr i r k off => .eptr (invρ ρ i) r k off
  | .ar i => .ar (invρ ρ i)
  | .sub i k off len c => .sub (invρ ρ i) k off len c
  | .mp i => .mp (invρ ρ i)
  | .nil => .v (.sl [])
  | .full rows => .v (.sl rows)
  | c => c
def nrmCs (ρ : List Nat) : List C → List C
  | [] => []
  | c :: r => nrmC ρ c :: nrmCs ρ r
mutual
def nrmAV (ρ : List Nat) : AV → AV
  | .one c => .one (nrmC ρ c)
  | .agg cs => .agg (nrmCs ρ cs)
  | .tup l => .tup (nrmAVs ρ l)
  | .fn f a b => .fn f (nrmCs ρ a) (nrmCs ρ b)
  | .any => .any
def nrmAVs (ρ : List Nat) : List AV → List AV
  | [] => []
  | v :: l => nrmAV ρ v :: nrmAVs ρ l
end
def nrmO (ρ : List Nat) : Option Blk → Option Blk
  | some (.box t cs) => some (.box t (nrmCs ρ cs))
  | b => b
def subO (ρ : List Nat) : Option (Option Blk) → Option Blk
  | some b => nrmO ρ b
  | none => none
def subH (hpc : Hp) (ρ : List Nat) : List Nat → Hp
  | [] => []
  | j :: r => subO ρ hpc[j]? :: subH hpc ρ r
def inC (ρ : List Nat) : C → Bool
  | .ptr i _ | .eptr i _ _ _ | .ar i | .sub i _ _ _ _ | .mp i => memB i ρ
  | _ => true
def inCs (ρ : List Nat) : List C → Bool
  | [] => true
  | c :: r => inC ρ c && inCs ρ r
mutual
def inAV (ρ : List Nat) : AV → Bool
  | .one c => inC ρ c
  | .agg cs => inCs ρ cs
  | .tup l => inAVs ρ l
  | .fn _ a b => inCs ρ a && inCs ρ b
  | .any => true
def inAVs (ρ : List Nat) : List AV → Bool
  | [] => true
  | v :: l => inAV ρ v && inAVs ρ l
end
def inO (ρ : List Nat) : Option (Option Blk) → Bool
  | some (some (.box _ cs)) => inCs ρ cs
  | _ => true
def inH (hpc : Hp) (ρ : List Nat) : List Nat → Bool
  | [] => true
  | j :: r => inO ρ hpc[j]? && inH hpc ρ r
section
variable {P : Program} {G : Nat → AV} {k n : Nat} {w w' : World} {ok ok' : Nat → Prop} {μ μ' : List MB} {hp hp' hpc : Hp} {ρ : List Nat}
theorem invρ_go {j : Nat} : ∀ {l : List Nat} {q : Nat}, j ∈ l → ∃ i, invρ.go j l q = some (q + i) ∧ l[i]? = some j
  | [], _, h => by simp at h
  | a :: r, q, h => by
    unfold invρ.go
    cases hb : a == j with
    | true => exact ⟨0, rfl, by rw [eq_of_beq hb]; rfl⟩
    | false =>
      have hne : a ≠ j := by intro e; subst e; simp at hb
      obtain ⟨i, h1, h2⟩ := invρ_go (l := r) (q := q + 1) (by rcases List.mem_cons.1 h with h | h; exact absurd h.symm hne; exact h)
      exact ⟨i + 1, by rw [cond_false, h1]; congr 1; omega, by simpa using h2⟩
theorem invρ_spec {j : Nat} (h : memB j ρ = true) : ρ[invρ ρ j]? = some j := by
  obtain ⟨i, h1, h2⟩ := invρ_go (q := 0) (memB_iff.1 h)
  unfold invρ
  rw [h1, Nat.zero_add]; exact h2
theorem nrmC_coe {hp : Hp} {F : List Nat} {c : C} (h : inC ρ c = true) : coeC hp F ρ (nrmC ρ c) c := by
  cases c with
  | v d => cases d <;> simp [nrmC, coeC]
  | ptr i off => exact ⟨invρ_spec h, rfl⟩
  | eptr i r k off => exact ⟨invρ_spec h, rfl, rfl, rfl⟩
  | ar i => exact invρ_spec h
  | sub i k off len c => exact ⟨invρ_spec h, rfl, rfl, rfl, rfl⟩
  | mp i => exact invρ_spec h
  | vptr cs => simp [nrmC, coeC]
  | full rows => simp [nrmC, coeC]
  | nil => simp [nrmC, coeC]
  | any => simp [nrmC, coeC]
theorem nrmCs_coe {hp : Hp} {F : List Nat} : ∀ {l : List C}, inCs ρ l = true → coeCs hp F ρ (nrmCs ρ l) l
  | [], _ => trivial
  | c :: l, h => by
    simp only [inCs, Bool.and_eq_true] at h
    exact ⟨nrmC_coe h.1, nrmCs_coe h.2⟩
mutual
theorem nrmAV_coe {hp : Hp} {F : List Nat} : ∀ {v : AV}, inAV ρ v = true → coeAV hp F ρ (nrmAV ρ v) v
  | .one _, h => nrmC_coe h
  | .agg _, h => nrmCs_coe h
  | .tup _, h => nrmAVs_coe h
  | .fn _ _ _, h => by
    simp only [inAV, Bool.and_eq_true] at h
    exact ⟨rfl, nrmCs_coe h.1, nrmCs_coe h.2⟩
  | .any, _ => trivial
theorem nrmAVs_coe {hp : Hp} {F : List Nat} : ∀ {l : List AV}, inAVs ρ l = true → coeAVs hp F ρ (nrmAVs ρ l) l
  | [], _ => trivial
  | v :: l, h => by
    simp only [inAVs, Bool.and_eq_true] at h
    exact ⟨nrmAV_coe h.1, nrmAVs_coe h.2⟩
end
theorem subH_coe {F : List Nat} : ∀ {l : List Nat} {i : Nat}, (∀ q, l[q]? = ρ[i + q]?) → inH hpc ρ l = true → coeH hpc F ρ i (subH hpc ρ l)
  | [], _, _, _ => trivial
  | j :: r, i, hl, h => by
    simp only [inH, Bool.and_eq_true] at h
    have hr : coeH hpc F ρ (i + 1) (subH hpc ρ r) := subH_coe (fun q => by have := hl (q + 1); rw [List.getElem?_cons_succ] at this; rw [this]; congr 1; omega) h.2
    have hj : ρ[i]? = some j := by have := hl 0; simpa using this.symm
    unfold subH
    cases hb : hpc[j]? with
    | none => exact hr
    | some o =>
      cases o with
      | none => exact hr
      | some b =>
        rw [hb] at h
        cases b with
        | box t cs => exact ⟨⟨j, _, hj, hb, rfl, nrmCs_coe h.1⟩, hr⟩
        | arr e kk rows => exact ⟨⟨j, _, hj, hb, rfl, rfl, rfl⟩, hr⟩
        | arj e kk n rows => exact ⟨⟨j, _, hj, hb, rfl, rfl, rfl, rfl⟩, hr⟩
        | mp t es => exact ⟨⟨j, _, hj, hb, rfl, rfl⟩, hr⟩
theorem subH_length : ∀ {l : List Nat}, (subH hpc ρ l).length = l.length
  | [] => rfl
  | _ :: r => by simp [subH, subH_length (l := r)]
def callChk (hpc : Hp) (ρ : List Nat) (k : Nat) (argsc : List AV) : Bool := decide (k ≤ ρ.length) && nodupB ρ && allLt hpc.length ρ && inH hpc ρ ρ && inAVs ρ argsc
theorem gcall_auto {f : Nat} {args argsc : List AV} {K : AV → Hp → Prop} (h : GCall P G f k hp args K) (hhp : subH hpc ρ ρ = hp) (ha : nrmAVs ρ argsc = args) (hchk : callChk hpc ρ k argsc = true) :
    ACall P G f hpc argsc fun r1 hp1 => ∃ r hp', K r hp' ∧ r1 = renAV (sig ρ k hpc.length) r ∧ hp1 = mergeH hpc ρ k hp' := by
  simp only [callChk, Bool.and_eq_true, decide_eq_true_eq] at hchk
  obtain ⟨⟨⟨⟨c1, c2⟩, c3⟩, c4⟩, c5⟩ := hchk
  subst hhp; subst ha
  exact gcall_sub h subH_length.symm (by rw [subH_length]; exact c1) (nodupB_iff c2) (allLt_spec c3) (subH_coe (fun q => by rw [Nat.zero_add]) c4) (nrmAVs_coe c5)
def callρ (hpc hp : Hp) (args argsc : List AV) : List Nat := mkρ (mH hpc 0 hp (mAVs [] args argsc)) hpc.length 0 hp
theorem PCall.kn {f : Nat} {hp : Hp} {args args' : List AV} {r : AV} {K : AV → Hp → Prop} (h : PCall P G f args' r) (hn : nrmAVs [] args = args') (hi : inAVs [] args = true) (hk : K r hp) {x : Held K} : CallK P G f hp args K x :=
  (h.at (hn ▸ nrmAVs_coe hi)).mono fun r' hp' ⟨h1, h2⟩ => by subst h1; subst h2; exact hk
theorem DetCall.out {f : Nat} {args : List AV} {r r2 : AV} {hp1 hp2 : Hp} (h : DetCall P G f k hp args r hp1) (ho : Out k hp1 r hp2 r2) : DetCall P G f k hp args r2 hp2 := by
  intro w ok μ xs hr hg ha
  refine (h w ok μ xs hr hg ha).mono ?_
  rintro e w' ⟨x, r', hp', ok', μ', rfl, hf, hrel, rfl, rfl⟩
  obtain ⟨ok2, μ2, hf2, hr2⟩ := ho w' ok' μ' x hf.hr hrel
  exact ⟨x, _, _, ok2, μ2, rfl, hf.trans hf2, hr2, rfl, rfl⟩
theorem DetCall.pcall {f : Nat} {args : List AV} {r : AV} (h : DetCall P G f 0 [] args r []) : PCall P G f args r := by
  intro w ok μ xs hr hg ha
  have h0 : μ.length = 0 := hr.len
  refine (h w ok μ xs hr hg ha).mono ?_
  rintro e w' ⟨x, r', hp', ok', μ', rfl, hf, hrel, rfl, rfl⟩
  rw [← h0] at hf
  exact ⟨x, _, _, ok', μ', rfl, hf.step, hrel, rfl, rfl⟩
theorem DetCall.plain {f : Nat} {args : List AV} {r r2 : AV} {hp1 : Hp} (h : DetCall P G f 0 [] args r hp1) (ho : OA 0 hp1 r [] r2) : PCall P G f args r2 := (h.out (out_auto ho)).pcall
def nzAVs (hp : Hp) : List AV → List AV
  | [] => []
  | v :: l => nzAV hp v :: nzAVs hp l
def arsAVs : List AV → List Nat
  | [] => []
  | v :: l => arsAV v ++ arsAVs l
theorem nzAVs_coe {F : List Nat} : ∀ {l : List AV}, (∀ i ∈ arsAVs l, i ∈ F) → idAVs (nzAVs hp l) = true → coeAVs hp F [] (nzAVs hp l) l
  | [], _, _ => trivial
  | v :: l, hF, h => by
    simp only [nzAVs, idAVs, Bool.and_eq_true] at h
    exact ⟨nzAV_coe (fun i hi => hF i (by simp [arsAVs, hi])) h.1, nzAVs_coe (fun i hi => hF i (by simp [arsAVs, hi])) h.2⟩
theorem PCall.frz {f : Nat} {args args' : List AV} {r : AV} (h : PCall P G f args' r) (hn : nzAVs hp args = args') (hi : idAVs args' = true) : ACall P G f hp args fun r' hp' => r' = r ∧ hp' = dropF (arsAVs args) hp := by
  subst hn
  intro w ok μ xs hr hg hargs
  obtain ⟨ok', s1, h1⟩ := dropF_step (arsAVs args) hr
  have hv : View w ok μ hp (arsAVs args) [] ok' [] := ⟨hr, fun i j m h => by simp at h, s1.oksub, fun i m b hi ⟨blk, hb⟩ h3 h4 => h1 i hi blk m b hb h3 h4⟩
  refine (h w ok' [] xs (hr_nil fun b hb => (s1.hr.keep hb).1) (fun g ν => (hg g ν).mono (fun _ _ => rfl) s1.oksub) (coeAVs_rel hv (nzAVs_coe (fun _ h => h) hi) hargs)).mono ?_
  rintro e w' ⟨x, r', hp', ok2, μ', rfl, hs, hrel, rfl, rfl⟩
  have hμ' : μ' = [] := List.eq_nil_of_length_eq_zero hs.hr.len
  subst hμ'
  exact ⟨x, _, _, ok2, μ, rfl, s1.trans (step_frame s1.hr hs), hrel.ext (fun i m h => by simp at h), rfl, rfl⟩
theorem CallZ.l {o : AOp} {s : S} {f : Nat} {args : List AV} {K : S → Prop} {a : Held K} (h : CallK P s.gl f s.hp args (fun r hp' => K ({ s with hp := hp' }.put o.dst r)) ⟨⟩) : CallZ P o s f args K a := .inl h
theorem CallZ.b {o : AOp} {s : S} {f : Nat} {args : List AV} {K : S → Prop} {a : Held K} (h : BorK P o s (frz (arsOf s.eval (opsOf o.op)) s) K ⟨⟩) : CallZ P o s f args K a := .inr (.inl h)
theorem CallZ.z {o : AOp} {s : S} {f : Nat} {args : List AV} {K : S → Prop} {a : Held K} (h : FrzK P o (frz (arsOf s.eval (opsOf o.op)) s) K ⟨⟩) : CallZ P o s f args K a := .inr (.inr h)
theorem hr_thaw (hr : HR w ok μ hp) {b o e m : Nat} {t : TypeId} {cs : List C} (h1 : hp[b]? = some (some (.box t cs))) (h2 : cs[o]? = some .nil) (hm : 0 < m) :
    Step w ok μ hp w ok (μ ++ [.arr (.slice none 0 0)]) (hp.set b (some (.box t (cs.set o (.ar hp.length)))) ++ [some (.arr e m [])]) := by
  obtain ⟨s1, s2⟩ := arr_sound (w' := w) (e := e) (k := m) (rows := []) (xs := []) (x := .slice none 0 0) hr rfl rfl rfl (Nat.le_refl _) (fun _ _ => rfl) (World.ownsRow_nil w 0 e m) .nil (fun _ h => by simp at h) (fun b hb => by cases hb)
  have hb : b < hp.length := lt_of_getElem? h1
  have h1' : (hp ++ [some (.arr e m [])])[b]? = some (some (.box t cs)) := by rw [List.getElem?_append_left hb]; exact h1
  obtain ⟨q, hq, hbr⟩ := s1.hr.rel b _ h1'
  have s3 := step_set (w' := w) (blk' := .box t (cs.set o (.ar hp.length))) s1.hr h1' hq rfl rfl rfl rfl (fun _ _ => rfl) (by
    cases q with
    | arr => exact hbr.elim
    | box g =>
      obtain ⟨xs, g1, g2⟩ := hbr
      refine ⟨xs, g1, ?_⟩
      obtain ⟨x, hx, hx'⟩ := g2.get h2
      cases hx' with | nil =>
      have h3 := g2.set (a := .ar hp.length) (b := .slice none 0 0) (by
        cases s2 with | one hc => exact hc) o
      have : xs.toList.set o (.slice none 0 0) = xs.toList := by
        apply List.ext_getElem?
        intro i
        rw [List.getElem?_set]
        split
        · rename_i e; subst e; rw [hx]; have hlx := lt_of_getElem? hx; simp only [Array.length_toList] at hlx; simp [hlx]
        · rfl
      rwa [this] at h3)
  have := s1.trans s3
  rwa [List.set_append_left _ _ hb] at this
theorem CallK.thaw {f : Nat} {argsc : List AV} {K : AV → Hp → Prop} {x : Held K} (b o e m : Nat) {t : TypeId} {cs : List C} (h1 : hp[b]? = some (some (.box t cs))) (h2 : cs[o]? = some .nil) (hm : 0 < m)
    (h : CallK P G f (hp.set b (some (.box t (cs.set o (.ar hp.length)))) ++ [some (.arr e m [])]) argsc K x) : CallK P G f hp argsc K x := by
  intro w ok μ xs hr hg hargs
  have s := hr_thaw (e := e) hr h1 h2 hm
  have hargs' : AVRels w ok (μ ++ [.arr (.slice none 0 0)]) argsc xs := hargs.ext s.ext
  refine (h w ok _ xs s.hr hg hargs').mono ?_
  rintro e' w' ⟨x, r, hp', ok', μ', he, hs, hr', hk⟩
  exact ⟨x, r, hp', ok', μ', he, s.trans hs, hr', hk⟩
end
end Go.Proofs.AE
set_option linter.unusedVariables false
set_option linter.unusedSimpArgs false
namespace Go.Proofs.AE
open Go Go.RowKit
attribute [go_sem] aop aopH aopJ exOp mapOp mpLen mpLook mpFind arjOpG hasArj arjOp arjNewG arjNew sliceSub srcJ narrowR thawR aopC aopL aopD aopDH stables pureOp heapOp callOf pickOf nilTest S.eval S.put getF cAV cV vC niceB bl binAV binV binI binS isShift eqCells unAV convAV rowsOf lenAV mkAV loadAV fieldAddrAV fieldAV intOfAV indexAddrAV indexAV boundAV sliceRows sliceAV minmaxI
  avC avCs cellsAV buildAV placesOf elemOk boxCells vsOf partRows srcRows isStrSh TI.isAgg thenA blockA finQ FinX retAV resVs resV enterF
  frz frz1 frF frAV frAVs frC frB arsOf arsAV arsCs opsOf aop1 BorK FrzK
  mpGet mpAdd mC mCs mAV mAVs mF mB mO mH mkρ idMp memB nodupB idB complB WA WA2 OA OA2 FinG finG frzOp nzAV nzC nzCs invρ invρ.go callρ arsAVs dropF renC renAV renAVs renO posOf sig mrg mergeH coeF coeH coeB
attribute [go_sem] Option.map_some Option.map_none List.map_cons List.map_nil List.length_cons List.length_nil List.getElem?_cons_zero List.getElem?_cons_succ List.getElem?_nil List.drop_succ_cons List.drop_zero List.drop_nil List.take_succ_cons List.take_zero List.take_nil
  List.nil_append List.cons_append List.append_nil List.set_cons_zero List.set_cons_succ List.isEmpty_cons List.isEmpty_nil
attribute [go_sem] subH subO nrmO nrmCs nrmC nrmAV nrmAVs inC inCs inAV inAVs inO inH callChk allLt
section
variable {P : Program} {k : Nat} {Q : Exit → S → Prop} {s : S}
@[go_sem ↓] theorem awp_reg' {ops : List AOp} : awp P k (.reg ops) Q s = aops P ops s (Q .normal) := rfl
@[go_sem ↓ low] theorem awp_regD' {al : List AOp} {ps : List (Nat × Nat)} : awp P k (.regD [(al, ps)]) Q s = aopsD P al [] s (fun h s' => stables P al (s :: h) ps ∧ Wk k s' (Q .normal) ⟨⟩) := by simp [awp, allAlts]
@[go_sem ↓] theorem awp_seq' {a b : ACode} : awp P k (.seq a b) Q s = awp P k a (thenA (awp P k b Q) Q) s := rfl
@[go_sem ↓] theorem aops_nil' {K : S → Prop} : aops P [] s K = K s := rfl
@[go_sem ↓] theorem aops_cons' {o : AOp} {os : List AOp} {K : S → Prop} : aops P (o :: os) s K = match o.g with
    | none => aop P o s fun s' => aops P os s' K
    | some (t, want) => match getF s.fr t with
      | .one (.v (.lit (.bool b))) => Cnd b want (s.put (some t) (bl want)) ((s.put (some t) (bl (!want))).put o.dst (.tup [])) (fun s => aop P o s fun s' => aops P os s' K) (fun s => aops P os s K) ⟨⟩ ⟨⟩
      | .tup [] => aops P os (s.put o.dst (.tup [])) K
      | _ => False := rfl
@[go_sem ↓] theorem aopsD_nil' {h : List S} {K : List S → S → Prop} : aopsD P [] h s K = K h s := rfl
@[go_sem ↓] theorem aopsD_cons' {o : AOp} {os : List AOp} {h : List S} {K : List S → S → Prop} : aopsD P (o :: os) h s K = match o.g with
    | none => aopD P o s fun s' => aopsD P os (h ++ [s']) s' K
    | some (t, want) => match getF s.fr t with
      | .one (.v (.lit (.bool b))) => Cnd b want (s.put (some t) (bl want)) ((s.put (some t) (bl (!want))).put o.dst (.tup [])) (fun s => aopD P o s fun s' => aopsD P os (h ++ [s']) s' K) (fun s => aopsD P os (h ++ [s]) s K) ⟨⟩ ⟨⟩
      | .tup [] => aopsD P os (h ++ [s.put o.dst (.tup [])]) (s.put o.dst (.tup [])) K
      | _ => False := rfl
@[go_sem ↓] theorem allAlts_nil' {K : S → Prop} : allAlts P s K [] = True := rfl
@[go_sem ↓ low] theorem allAlts_cons' {al : List AOp} {ps : List (Nat × Nat)} {r : List (List AOp × List (Nat × Nat))} {K : S → Prop} : allAlts P s K ((al, ps) :: r) = (aopsD P al [] s (fun h s' => stables P al (s :: h) ps ∧ K s') ∧ allAlts P s K r) := rfl
def aopsE (P : Program) : List AOp → S → (S → Prop) → Prop
  | [], s, K => K s
  | o :: os, s, K =>
    match o.g with
    | none => aopD P o s fun s' => aopsE P os s' K
    | some (t, want) => match getF s.fr t with
      | .one (.v (.lit (.bool b))) => Cnd b want (s.put (some t) (bl want)) ((s.put (some t) (bl (!want))).put o.dst (.tup [])) (fun s => aopD P o s fun s' => aopsE P os s' K) (fun s => aopsE P os s K) ⟨⟩ ⟨⟩
      | .tup [] => aopsE P os (s.put o.dst (.tup [])) K
      | _ => False
theorem aopsE_eq : ∀ (l : List AOp) (h : List S) (s : S) (K : S → Prop), aopsD P l h s (fun _ s' => K s') = aopsE P l s K
  | [], _, _, _ => rfl
  | o :: os, h, s, K => by
    have ih : ∀ h s, aopsD P os h s (fun _ s' => K s') = aopsE P os s K := fun h s => aopsE_eq os h s K
    have hA : (fun s => aopD P o s fun s' => aopsD P os (h ++ [s']) s' fun _ s' => K s') = (fun s => aopD P o s fun s' => aopsE P os s' K) := by funext s; simp only [ih]
    have hB : (fun s => aopsD P os (h ++ [s]) s fun _ s' => K s') = (fun s => aopsE P os s K) := by funext s; simp only [ih]
    unfold aopsD aopsE
    rw [hA, hB]
    simp only [ih]
    try rfl
@[go_sem ↓] theorem aopsE_nil' {K : S → Prop} : aopsE P [] s K = K s := rfl
@[go_sem ↓] theorem aopsE_cons' {o : AOp} {os : List AOp} {K : S → Prop} : aopsE P (o :: os) s K = match o.g with
    | none => aopD P o s fun s' => aopsE P os s' K
    | some (t, want) => match getF s.fr t with
      | .one (.v (.lit (.bool b))) => Cnd b want (s.put (some t) (bl want)) ((s.put (some t) (bl (!want))).put o.dst (.tup [])) (fun s => aopD P o s fun s' => aopsE P os s' K) (fun s => aopsE P os s K) ⟨⟩ ⟨⟩
      | .tup [] => aopsE P os (s.put o.dst (.tup [])) K
      | _ => False := rfl
theorem aopsE_true {al : List AOp} {h : List S} {K : S → Prop} : aopsD P al h s (fun h s' => stables P al (s :: h) [] ∧ K s') = aopsE P al s K := by
  rw [← aopsE_eq al h]
  congr 1
  funext h s'
  simp [stables]
@[go_sem ↓] theorem awp_regE' {al : List AOp} : awp P k (.regD [(al, [])]) Q s = aopsE P al s (fun s' => Wk k s' (Q .normal) ⟨⟩) := by simp only [awp, allAlts, and_true]; exact aopsE_true
@[go_sem ↓] theorem allAlts_consE' {al : List AOp} {K : S → Prop} {r : List (List AOp × List (Nat × Nat))} : allAlts P s K ((al, []) :: r) = (aopsE P al s K ∧ allAlts P s K r) := by simp only [allAlts]; rw [aopsE_true]
@[go_sem ↓] theorem awp_skip' : awp P k .skip Q s = Q .normal s := rfl
@[go_sem ↓] theorem awp_ret' : awp P k .ret Q s = Q .ret s := rfl
@[go_sem ↓] theorem awp_exit' {id : Nat} : awp P k (.exit id) Q s = Q (.exit id) s := rfl
@[go_sem ↓] theorem awp_block' {id : Nat} {c : ACode} : awp P k (.block id c) Q s = awp P k c (blockA id Q) s := rfl
@[go_sem ↓] theorem awp_cond' {c : Operand} {t e : ACode} : awp P k (.cond c t e) Q s = match s.eval c with
    | .one (.v (.lit (.bool b))) => Cnd b true s s (awp P k t Q) (awp P k e Q) ⟨⟩ ⟨⟩
    | _ => False := rfl
theorem pcall_of (hm : P.follows .mixedOrders = true) {G : Nat → AV} {f : Nat} {fn : Func} {ac : ACode} {args : List AV} {r : AV} {rs : List ResultVar} (hf : P.funcs[f]? = some fn) (hc : fn.body.bind (comp fn.ntmps) = some ac) (hrs : fn.results.toList = rs) (hn : args.length ≤ fn.ntmps)
    (h : awp P 0 ac (finQ P 0 rs fun r' hp' => hp' = [] ∧ r' = r) ⟨enterF 0 args, G, []⟩) : PCall P G f args r := by
  obtain ⟨c, hb, hc⟩ := Option.bind_eq_some_iff.1 hc
  subst hrs
  exact acall_of hm hf hb hc hn h
theorem out_plain {hp : Hp} {r0 r : AV} {F : List Nat} (h : coeAV hp F [] r r0) : Out 0 hp r0 [] r :=
  out_of F [] rfl .nil (fun _ _ h => by cases h) (fun i h => by omega) h trivial
attribute [go_sem] coeAV coeAVs coeC coeCs
end
end Go.Proofs.AE
set_option linter.unusedVariables false
set_option linter.unusedSimpArgs false
namespace Go.Proofs.AE
open Go Go.RowKit
section
variable {P : Program} {G : Nat → AV}
@[go_sem ↓] theorem Cnd_tt {s s' : S} {A B : S → Prop} {a : Held A} {b : Held B} : Cnd true true s s' A B a b = A s := propext ⟨fun h => h.1 rfl, fun h => ⟨fun _ => h, nofun⟩⟩
@[go_sem ↓] theorem Cnd_ff {s s' : S} {A B : S → Prop} {a : Held A} {b : Held B} : Cnd false false s s' A B a b = A s := propext ⟨fun h => h.1 rfl, fun h => ⟨fun _ => h, nofun⟩⟩
@[go_sem ↓] theorem Cnd_tf {s s' : S} {A B : S → Prop} {a : Held A} {b : Held B} : Cnd true false s s' A B a b = B s' := propext ⟨fun h => h.2 rfl, fun h => ⟨nofun, fun _ => h⟩⟩
@[go_sem ↓] theorem Cnd_ft {s s' : S} {A B : S → Prop} {a : Held A} {b : Held B} : Cnd false true s s' A B a b = B s' := propext ⟨fun h => h.2 rfl, fun h => ⟨nofun, fun _ => h⟩⟩
theorem bytes_beq' (a b : ByteArray) : (a == b) = decide (a = b) := by
  rw [Bool.eq_iff_iff, decide_eq_true_iff]
  exact Go.MapKept.bytes_beq a b
attribute [go_sem] bytes_beq'
theorem Cnd.intro {b want : Bool} {s s' : S} {A B : S → Prop} {a : Held A} {c : Held B} (h1 : b = want → A s) (h2 : b = !want → B s') : Cnd b want s s' A B a c := ⟨h1, h2⟩
theorem PCall.k {f : Nat} {hp : Hp} {args args' : List AV} {r : AV} {K : AV → Hp → Prop} (h : PCall P G f args' r) (hc : coeAVs hp [] [] args' args) (hk : K r hp) {x : Held K} : CallK P G f hp args K x :=
  (h.at hc).mono fun r' hp' ⟨h1, h2⟩ => by subst h1; subst h2; exact hk
theorem PCall.d {f : Nat} {hp : Hp} {args args' : List AV} {r : AV} {K : AV → Hp → Prop} (h : PCall P G f args' r) (hc : coeAVs hp [] [] args' args) (hk : K r hp) {x : Held K} : DCall P G f hp args K x :=
  ⟨r, hp, (h.at hc).mono fun r' hp' ⟨h1, h2⟩ => ⟨h2, h1⟩, hk⟩
theorem Wk.refl {k : Nat} {s : S} {K : S → Prop} {x : Held K} (h : K s) : Wk k s K x := ⟨s, Weak.refl k s, h⟩
theorem PCall.kf {f : Nat} {hp : Hp} {args : List AV} {r : AV} {K : AV → Hp → Prop} (h : PCall P G f args r) (hi : idAVs args = true) (hk : K r hp) {x : Held K} : CallK P G f hp args K x := h.k (idAVs_coe hi) hk
theorem PCall.df {f : Nat} {hp : Hp} {args : List AV} {r : AV} {K : AV → Hp → Prop} (h : PCall P G f args r) (hi : idAVs args = true) (hk : K r hp) {x : Held K} : DCall P G f hp args K x := h.d (idAVs_coe hi) hk
def FinP (P : Program) (rs : List ResultVar) (R : AV) (s : S) : Prop :=
  match retAV P s rs with
  | some r0 => coeAV s.hp (List.range s.hp.length) [] R r0
  | none => False
def finP (P : Program) (rs : List ResultVar) (R : AV) : Exit → S → Prop
  | .normal, s | .ret, s => FinP P rs R s
  | _, _ => False
theorem FinP.fin {rs : List ResultVar} {R : AV} {s : S} (h : FinP P rs R s) : FinX P 0 rs (fun r' hp' => hp' = [] ∧ r' = R) s := by
  unfold FinP at h
  unfold FinX
  split at h
  · rename_i r0 hr
    try rw [hr]
    exact ⟨R, [], out_plain h, rfl, rfl⟩
  · exact h.elim
theorem aop1_mono {o : AOp} {s : S} {K K' : S → Prop} (hk : ∀ s, K s → K' s) (h : aop1 P o s K) : aop1 P o s K' := by
  unfold aop1 at h ⊢
  split at h
  · exact ⟨h.1, hk _ h.2⟩
  · split at h
    · exact ⟨h.1, hk _ h.2⟩
    · exact h
theorem aop_mono {o : AOp} {s : S} {K K' : S → Prop} (hk : ∀ s, K s → K' s) (h : aop P o s K) : aop P o s K' := by
  unfold aop aopH aopJ aopC aopL at h ⊢
  split at h
  · exact ⟨h.1, hk _ h.2⟩
  · split at h
    · exact ⟨h.1, hk _ h.2⟩
    · split at h
      · exact ⟨h.1, hk _ h.2⟩
      split at h
      · exact ⟨h.1, fun c h1 h2 => hk _ (h.2 c h1 h2)⟩
      split at h
      · refine ⟨h.1, ?_⟩
        rcases h.2 with h2 | h2 | h2
        · exact .inl (ACall.mono h2 fun _ _ => hk _)
        · refine .inr (.inl ?_)
          unfold BorK at h2 ⊢
          split at h2
          · obtain ⟨h3, r, h4, h5, h6, h7⟩ := h2
            exact ⟨h3, r, h4, h5, hk _ h6, h7⟩
          · exact h2
        · refine .inr (.inr ?_)
          unfold FrzK at h2 ⊢
          split at h2
          · exact ⟨h2.1, ACall.mono h2.2 fun _ _ => hk _⟩
          · exact h2
      · split at h
        · exact ⟨fun e => hk _ (h.1 e), fun e => hk _ (h.2 e)⟩
        · split at h
          · exact fun q hq => hk _ (h q hq)
          · exact aop1_mono hk h
theorem aops_mono {K K' : S → Prop} (hk : ∀ s, K s → K' s) : ∀ {l : List AOp} {s : S}, aops P l s K → aops P l s K'
  | [], s, h => hk s h
  | o :: l, s, h => by
    unfold aops at h ⊢
    split at h
    · exact aop_mono (fun s => aops_mono hk) h
    · split at h
      · exact ⟨fun e => aop_mono (fun s => aops_mono hk) (h.1 e), fun e => aops_mono hk (h.2 e)⟩
      · exact aops_mono hk h
      · exact h
theorem aopD_mono {o : AOp} {s : S} {K K' : S → Prop} (hk : ∀ s, K s → K' s) (h : aopD P o s K) : aopD P o s K' := by
  unfold aopD aopDH at h ⊢
  split at h
  · exact ⟨h.1, hk _ h.2⟩
  · split at h
    · exact ⟨h.1, hk _ h.2⟩
    · split at h
      · exact ⟨h.1, hk _ h.2⟩
      split at h
      · obtain ⟨h1, r, hp', h2, h3⟩ := h
        exact ⟨h1, r, hp', h2, hk _ h3⟩
      · split at h
        · exact ⟨fun e => hk _ (h.1 e), fun e => hk _ (h.2 e)⟩
        · split at h
          · exact ⟨h.1, hk _ h.2⟩
          · exact h
theorem aopsD_mono : ∀ {l : List AOp} {hs : List S} {s : S} {K K' : List S → S → Prop}, (∀ h s, K h s → K' h s) → aopsD P l hs s K → aopsD P l hs s K'
  | [], hs, s, _, _, hk, h => hk hs s h
  | o :: l, hs, s, _, _, hk, h => by
    unfold aopsD at h ⊢
    split at h
    · exact aopD_mono (fun s => aopsD_mono hk) h
    · split at h
      · exact ⟨fun e => aopD_mono (fun s => aopsD_mono hk) (h.1 e), fun e => aopsD_mono hk (h.2 e)⟩
      · exact aopsD_mono hk h
      · exact h
theorem allAlts_mono {s : S} {K K' : S → Prop} (hk : ∀ s, K s → K' s) : ∀ {l : List (List AOp × List (Nat × Nat))}, allAlts P s K l → allAlts P s K' l
  | [], _ => trivial
  | (_, _) :: _, h => ⟨aopsD_mono (fun _ _ ⟨h1, h2⟩ => ⟨h1, hk _ h2⟩) h.1, allAlts_mono hk h.2⟩
theorem awp_mono {k : Nat} : ∀ {c : ACode} {Q Q' : Exit → S → Prop} {s : S}, (∀ e s, Q e s → Q' e s) → awp P k c Q s → awp P k c Q' s
  | .skip, _, _, _, hq, h => hq _ _ h
  | .reg ops, _, _, _, hq, h => aops_mono (hq .normal) h
  | .regD alts, _, _, _, hq, h => allAlts_mono (fun _ ⟨s', h1, h2⟩ => ⟨s', h1, hq .normal s' h2⟩) h
  | .seq a b, Q, Q', s, hq, h => by
    refine awp_mono (c := a) (fun e s he => ?_) h
    cases e with
    | normal => exact awp_mono (c := b) hq he
    | _ => exact hq _ _ he
  | .cond c t e, Q, Q', s, hq, h => by
    simp only [awp] at h ⊢
    split at h
    · exact ⟨fun x => awp_mono hq (h.1 x), fun x => awp_mono hq (h.2 x)⟩
    · exact h
  | .block id c, Q, Q', s, hq, h => by
    refine awp_mono (c := c) (fun e s he => ?_) h
    cases e with
    | exit id' => simp only [blockA] at he ⊢; split at he <;> (rename_i hid; simp [hid]; exact hq _ _ he)
    | _ => exact hq _ _ he
  | .loop c, Q, Q', s, hq, h => by
    obtain ⟨I, m, h1, h2⟩ := h
    refine ⟨I, m, h1, fun s hs => awp_mono (c := c) (fun e s' he => ?_) (h2 s hs)⟩
    cases e with
    | normal => exact he
    | _ => exact hq _ _ he
  | .exit id, _, _, _, hq, h => hq _ _ h
  | .ret, _, _, _, hq, h => hq _ _ h
theorem pcall (hm : P.follows .mixedOrders = true) {f : Nat} {fn : Func} {ac : ACode} {args : List AV} {r : AV} {rs : List ResultVar} (hf : P.funcs[f]? = some fn) (hc : fn.body.bind (comp fn.ntmps) = some ac) (hrs : fn.results.toList = rs) (hn : args.length ≤ fn.ntmps)
    (h : awp P 0 ac (finP P rs r) ⟨enterF 0 args, G, []⟩) : PCall P G f args r := by
  refine pcall_of hm hf hc hrs hn (awp_mono (fun e s he => ?_) h)
  cases e with
  | normal => exact FinP.fin he
  | ret => exact FinP.fin he
  | _ => exact he
theorem FinG.fin {k : Nat} {rs : List ResultVar} {R : AV} {hp' : Hp} {s : S} (h : FinG P k rs R hp' s) : FinX P k rs (fun r1 hp1 => r1 = R ∧ hp1 = hp') s := by
  unfold FinG at h
  unfold FinX
  cases hret : retAV P s rs with
  | none => rw [hret] at h; exact h.elim
  | some r0 =>
    rw [hret] at h
    show ∃ r hp1, Out k s.hp r0 hp1 r ∧ r = R ∧ hp1 = hp'
    cases hn : narrowR s.hp r0 with
    | some q =>
      obtain ⟨p, hp1, r1⟩ := q
      simp only [hn] at h
      refine ⟨R, hp', fun w ok μ x hr1 hv => ?_, rfl, rfl⟩
      obtain ⟨μ1, s1, hv1⟩ := narrow_step hr1 hv hn h.1
      obtain ⟨ok2, μ2, f2, hv2⟩ := out_auto h.2 w ok μ1 x s1.hr hv1
      exact ⟨ok2, μ2, s1.far.trans f2, hv2⟩
    | none =>
      simp only [hn] at h
      cases ht : thawR s.hp r0 R hp' with
      | some q =>
        obtain ⟨p, hp1, r1⟩ := q
        simp only [ht] at h
        refine ⟨R, hp', fun w ok μ x hr1 hv => ?_, rfl, rfl⟩
        obtain ⟨μ1, s1, hv1⟩ := thaw_step hr1 hv ht h.1
        obtain ⟨ok2, μ2, f2, hv2⟩ := out_auto h.2 w ok μ1 x s1.hr hv1
        exact ⟨ok2, μ2, s1.far.trans f2, hv2⟩
      | none =>
        simp only [ht] at h
        exact ⟨R, hp', out_auto h, rfl, rfl⟩
theorem HR.arj {w : World} {ok : Nat → Prop} {μ : List MB} {e : TypeId} {k : Nat} {rows : List (List V)} {hp : Hp} (hk : 0 < k) (hr : HR w ok μ (some (.arr e k rows) :: hp)) :
    ∃ c x, rows.length ≤ c ∧ c ≤ maxLen ∧ UL k rows ∧ HR w ok μ (some (.arj e k c rows) :: hp) ∧ μ[0]? = some (.arr x) ∧ SubOf k 0 rows.length c x x := by
  obtain ⟨m, hm, hb⟩ := hr.rel 0 _ rfl
  cases m with
  | box => exact hb.elim
  | arr x =>
  obtain ⟨xs, hown, hall, hul⟩ := hb
  have key : ∃ c, rows.length ≤ c ∧ c ≤ maxLen ∧ BRel w ok μ (.arj e k c rows) (.arr x) ∧ SubOf k 0 rows.length c x x := by
    rcases hown.2 with ⟨rfl, hn⟩ | ⟨g, cap, cur, rfl, _, hg, hnc, hcm, hcs, htake⟩
    · exact ⟨0, by omega, Nat.zero_le _, ⟨hk, hul, .inl ⟨rfl, rfl, List.eq_nil_of_length_eq_zero hn⟩⟩, .nil hn rfl⟩
    · refine ⟨cap, hnc, hcm, ⟨hk, hul, .inr ⟨g, rows.length, cur, rfl, hg, hnc, hcm, hcs, by rw [htake]; exact hall⟩⟩, ?_⟩
      have := SubOf.at (k := k) (off := 0) (len := rows.length) (g := g) (n := rows.length) (c := cap) (o := 0) (fun _ => by simp)
      simpa using this
  obtain ⟨c, h1, h2, h3, h4⟩ := key
  have old : ∀ (i : Nat) b, (some (Blk.arj e k c rows) :: hp)[i]? = some (some b) → ∃ b', (some (Blk.arr e k rows) :: hp)[i]? = some (some b') := by
    intro i b h
    cases i with
    | zero => exact ⟨_, rfl⟩
    | succ i => exact ⟨b, h⟩
  refine ⟨c, x, h1, h2, hul, ⟨hr.len, ?_, ?_, ?_⟩, hm, h4⟩
  · intro i b hb
    cases i with
    | zero => cases hb; exact ⟨_, hm, h3⟩
    | succ i => exact hr.rel (i + 1) b hb
  · intro i j b c m n k hij hb hc
    obtain ⟨b', hb'⟩ := old i b hb
    obtain ⟨c', hc'⟩ := old j c hc
    exact hr.inj i j b' c' m n k hij hb' hc'
  · intro k hk
    refine ⟨(hr.okn k hk).1, fun i b m hb => ?_⟩
    obtain ⟨b', hb'⟩ := old i b hb
    exact (hr.okn k hk).2 i b' m hb'
theorem ownL_arj {μ : List MB} {e : TypeId} {k c : Nat} {rows : List (List V)} {hp : Hp} {b : Nat} : OwnL (some (.arj e k c rows) :: hp) μ b ↔ OwnL (some (.arr e k rows) :: hp) μ b := by
  constructor <;> rintro ⟨i, blk, m, h1, h2, h3⟩ <;> (cases i with
    | zero => exact ⟨0, _, m, rfl, h2, h3⟩
    | succ i => exact ⟨i + 1, blk, m, h1, h2, h3⟩)
theorem DetCall.arj {f : Nat} {e : TypeId} {k : Nat} {rows : List (List V)} {hp hp' : Hp} {rest : List AV} {r : AV} (hk : 0 < k)
    (h : ∀ c, rows.length ≤ c → c ≤ maxLen → UL k rows → DetCall P G f 0 (some (.arj e k c rows) :: hp) (.one (.sub 0 k 0 rows.length c) :: rest) r hp') : DetCall P G f 0 (some (.arr e k rows) :: hp) (.one (.ar 0) :: rest) r hp' := by
  intro w ok μ xs hr hg hargs
  obtain ⟨c, x, h1, h2, hul, hr', hμ, hs⟩ := hr.arj hk
  cases hargs with | cons ha ht =>
  cases ha with | one hc => cases hc with | ar hμ' _ =>
  rw [hμ] at hμ'; cases hμ'
  refine (h c h1 h2 hul w ok μ _ hr' hg (.cons (.one (.sub _ _ _ _ hμ hs)) ht)).mono ?_
  rintro e' w' ⟨y, r', hp1, ok', μ', rfl, hf, hrel, hk'⟩
  refine ⟨y, r', hp1, ok', μ', rfl, ⟨hf.hr, hf.os, hf.tape, hf.output, hf.size, fun b hb hn => hf.frame b hb (fun ho => hn (ownL_arj.1 ho)), hf.oksub, ?_, ?_, hf.ext⟩, hrel, hk'⟩
  · intro b hb
    rcases hf.okfrom b hb with h3 | h3 | h3
    · exact .inl h3
    · exact .inr (.inl h3)
    · exact .inr (.inr (ownL_arj.1 h3))
  · intro b hb
    rcases hf.ownfrom b hb with h3 | h3
    · exact .inl h3
    · exact .inr (ownL_arj.1 h3)
theorem gcall (hm : P.follows .mixedOrders = true) {f k : Nat} {fn : Func} {ac : ACode} {hp hp' : Hp} {args : List AV} {r : AV} {rs : List ResultVar} (hf : P.funcs[f]? = some fn) (hc : fn.body.bind (comp fn.ntmps) = some ac) (hrs : fn.results.toList = rs) (hn : args.length ≤ fn.ntmps)
    (h : awp P k ac (finG P k rs r hp') ⟨enterF 0 args, G, hp⟩) : DetCall P G f k hp args r hp' := by
  obtain ⟨c, hb, hc⟩ := Option.bind_eq_some_iff.1 hc
  subst hrs
  refine gcall_of hm hf hb hc hn (awp_mono (fun e s he => ?_) h)
  cases e with
  | normal => exact FinG.fin he
  | ret => exact FinG.fin he
  | _ => exact he
class CQ (Q : Program → (Nat → AV) → Nat → Hp → List AV → (K : AV → Hp → Prop) → Held K → Prop) : Prop where
  up : ∀ {P : Program} {G : Nat → AV} {f : Nat} {hp hp' : Hp} {args : List AV} {r : AV} {K : AV → Hp → Prop} {x : Held K}, (ACall P G f hp args fun r' hp'' => r' = r ∧ hp'' = hp') → K r hp' → Q P G f hp args K x
instance : CQ CallK := ⟨fun h hk => h.mono fun r' hp' ⟨h1, h2⟩ => by subst h1; subst h2; exact hk⟩
instance : CQ DCall := ⟨fun h hk => ⟨_, _, h, hk⟩⟩
theorem qkc {f : Nat} {args args' : List AV} {r : AV} (h : PCall P G f args' r) (e : (nrmAVs [] args, inAVs [] args) = (args', true)) : ∀ hp, ACall P G f hp args fun r' hp'' => r' = r ∧ hp'' = hp := by
  have hn : nrmAVs [] args = args' := congrArg Prod.fst e
  have hi : inAVs [] args = true := congrArg Prod.snd e
  exact fun hp => (h.at (hn ▸ nrmAVs_coe hi)).mono fun r' hp' ⟨h1, h2⟩ => ⟨h2, h1⟩
theorem qcn {Q} [CQ Q] {f : Nat} {hp : Hp} {args : List AV} {r : AV} {K : AV → Hp → Prop} (h : ∀ hp, ACall P G f hp args fun r' hp'' => r' = r ∧ hp'' = hp) (hk : K r hp) {x : Held K} : Q P G f hp args K x := CQ.up (h hp) hk
theorem qcf {Q} [CQ Q] {f : Nat} {hp : Hp} {args : List AV} {r : AV} {K : AV → Hp → Prop} (h : PCall P G f args r) (hi : idAVs args = true) (hk : K r hp) {x : Held K} : Q P G f hp args K x :=
  CQ.up ((h.at (idAVs_coe hi)).mono fun r' hp' ⟨h1, h2⟩ => ⟨h2, h1⟩) hk
theorem qkz {f : Nat} {hp : Hp} {args args' : List AV} {r : AV} (h : PCall P G f args' r) (e : (nzAVs hp args, idAVs args') = (args', true)) : ACall P G f hp args fun r' hp'' => r' = r ∧ hp'' = dropF (arsAVs args) hp := by
  have hn : nzAVs hp args = args' := congrArg Prod.fst e
  have hi : idAVs args' = true := congrArg Prod.snd e
  exact h.frz hn hi
attribute [go_sem] finP FinP idAVs idAV idC flatAV flatAVs flatC
end
end Go.Proofs.AE
set_option linter.unusedVariables false
set_option linter.unusedSimpArgs false
namespace Go.Proofs.AE
open Go Go.RowKit
section
variable {P : Program} {G : Nat → AV}
theorem Cn {b want : Bool} {s s' : S} {A B : S → Prop} {a : Held A} {c : Held B} (h1 : b = want → A s) (h2 : b = !want → B s') : Cnd b want s s' A B a c := ⟨h1, h2⟩
theorem wR {k : Nat} {s : S} {K : S → Prop} {x : Held K} (h : K s) : Wk k s K x := Wk.refl h
theorem wr (k : Nat) (s : S) : Weak k s s := Weak.refl k s
theorem wa {k : Nat} {s s' : S} (h : WA k s s') : Weak k s s' := weak_auto h
theorem q {o : AOp} {s : S} {f : Nat} {args args' : List AV} {r : AV} {K : S → Prop} {x : Held K} (h : PCall P s.gl f args' r) (hk : K ({ s with hp := s.hp }.put o.dst r))
    (e : (nrmAVs [] args, inAVs [] args) = (args', true) := by with_unfolding_all rfl) : CallZ P o s f args K x := CallZ.l (qcn (qkc h e) hk)
theorem qd {Q} [CQ Q] {f : Nat} {hp : Hp} {args args' : List AV} {r : AV} {K : AV → Hp → Prop} {x : Held K} (h : PCall P G f args' r) (hk : K r hp)
    (e : (nrmAVs [] args, inAVs [] args) = (args', true) := by with_unfolding_all rfl) : Q P G f hp args K x := qcn (qkc h e) hk
theorem q1 {o : AOp} {s : S} {f : Nat} {args : List AV} {r : AV} {K : S → Prop} {x : Held K} (h : PCall P s.gl f args r) (hk : K ({ s with hp := s.hp }.put o.dst r))
    (e : idAVs args = true := by with_unfolding_all rfl) : CallZ P o s f args K x := CallZ.l (qcf h e hk)
theorem q1d {Q} [CQ Q] {f : Nat} {hp : Hp} {args : List AV} {r : AV} {K : AV → Hp → Prop} {x : Held K} (h : PCall P G f args r) (hk : K r hp)
    (e : idAVs args = true := by with_unfolding_all rfl) : Q P G f hp args K x := qcf h e hk
theorem qz {f : Nat} {hp hp1 : Hp} {args args' : List AV} {r : AV} {K : AV → Hp → Prop} {x : Held K} (h : PCall P G f args' r) (hk : K r hp1)
    (e : (nzAVs hp args, idAVs args') = (args', true) := by with_unfolding_all rfl)
    (e1 : dropF (arsAVs args) hp = hp1 := by (try conv => lhs; simp -dsimp [go_sem]); all_goals rfl) : DCall P G f hp args K x := by
  subst e1; exact ⟨r, _, qkz h e, hk⟩
theorem qg {o : AOp} {s : S} {f k : Nat} {hp hp' hp1 : Hp} {args argsc : List AV} {r r1 : AV} {K : S → Prop} {x : Held K} {ρ : List Nat} (h : DetCall P s.gl f k hp args r hp') (hk : K ({ s with hp := hp1 }.put o.dst r1))
    (e1 : callρ s.hp hp args argsc = ρ := by (try conv => lhs; simp -dsimp [go_sem]); all_goals rfl)
    (e2 : subH s.hp ρ ρ = hp := by with_unfolding_all rfl)
    (e3 : nrmAVs ρ argsc = args := by with_unfolding_all rfl)
    (e4 : callChk s.hp ρ k argsc = true := by with_unfolding_all rfl)
    (e5 : renAV (sig ρ k s.hp.length) r = r1 := by (try conv => lhs; simp -dsimp [go_sem]); all_goals rfl)
    (e6 : mergeH s.hp ρ k hp' = hp1 := by (try conv => lhs; simp -dsimp [go_sem]); all_goals rfl) : CallZ P o s f argsc K x := by
  subst e1; subst e5; subst e6
  exact CallZ.l (CQ.up ((gcall_auto h e2 e3 e4).mono fun r1 hp1 ⟨r2, hp2, ⟨e1, e2⟩, e3, e4⟩ => by subst e1; subst e2; exact ⟨e3, e4⟩) hk)
theorem qgd {Q} [CQ Q] {f k : Nat} {hp hp' hp1 hpc : Hp} {args argsc : List AV} {r r1 : AV} {K : AV → Hp → Prop} {x : Held K} {ρ : List Nat} (h : DetCall P G f k hp args r hp') (hk : K r1 hp1)
    (e1 : callρ hpc hp args argsc = ρ := by (try conv => lhs; simp -dsimp [go_sem]); all_goals rfl)
    (e2 : subH hpc ρ ρ = hp := by with_unfolding_all rfl)
    (e3 : nrmAVs ρ argsc = args := by with_unfolding_all rfl)
    (e4 : callChk hpc ρ k argsc = true := by with_unfolding_all rfl)
    (e5 : renAV (sig ρ k hpc.length) r = r1 := by (try conv => lhs; simp -dsimp [go_sem]); all_goals rfl)
    (e6 : mergeH hpc ρ k hp' = hp1 := by (try conv => lhs; simp -dsimp [go_sem]); all_goals rfl) : Q P G f hpc argsc K x := by
  subst e1; subst e5; subst e6
  exact CQ.up ((gcall_auto h e2 e3 e4).mono fun r1 hp1 ⟨r2, hp2, ⟨e1, e2⟩, e3, e4⟩ => by subst e1; subst e2; exact ⟨e3, e4⟩) hk
end
structure CC (f : Func) (c : ACode) (rs : List ResultVar) : Prop where
  ok : f.body.bind (comp f.ntmps) = some c
  hr : f.results.toList = rs
def ordOps (n : Nat) (ops : Array Oper) : List Nat → List AOp
  | [] => []
  | i :: r => match ops[i]? with
    | some o => match compOp n ops o with
      | some a => a :: ordOps n ops r
      | none => []
    | none => []
def ordAlts (n : Nat) (ops : Array Oper) : List (List Nat × List (Nat × Nat)) → List (List AOp × List (Nat × Nat))
  | [] => []
  | x :: r => (ordOps n ops x.1, x.2) :: ordAlts n ops r
def altsAt (i : Nat) : List (Nat × List (List Nat × List (Nat × Nat))) → List (List Nat × List (Nat × Nat))
  | [] => []
  | x :: r => if x.1 = i then x.2 else altsAt i r
def fillC (n : Nat) (D : List (Nat × List (List Nat × List (Nat × Nat)))) : Code → ACode
  | .skip => .skip
  | .region _ ops false => .reg ((compOps n ops ops.toList).getD [])
  | .region i ops true => .regD (ordAlts n ops (altsAt i D))
  | .seq a b => .seq (fillC n D a) (fillC n D b)
  | .cond c t e => .cond c (fillC n D t) (fillC n D e)
  | .block id c => .block id (fillC n D c)
  | .loop c => .loop (fillC n D c)
  | .exit id => .exit id
  | _ => .ret
theorem CC.of (f : Func) (D : List (Nat × List (List Nat × List (Nat × Nat)))) {b : Code} {n : Nat} {c : ACode} {rv : Array ResultVar} {rs : List ResultVar} (hb : f.body = some b := by rfl) (hn : f.ntmps = n := by rfl) (hv : f.results = rv := by rfl)
    (hc : fillC n D b = c := by (conv => lhs; simp [fillC, ordAlts, ordOps, altsAt, compOps, compOp, dstOk]); all_goals exact rfl)
    (hr : rv.toList = rs := by (conv => lhs; whnf); all_goals exact rfl) (ho : comp n b = some c := by kernel_rfl) : CC f c rs := ⟨by rw [hb, hn]; exact ho, by rw [hv]; exact hr⟩
theorem pcallc {P : Program} {G : Nat → AV} (hm : P.follows .mixedOrders = true) {f : Nat} {fn : Func} {c : ACode} {rs : List ResultVar} {args : List AV} {r : AV} (hf : P.funcs[f]? = some fn) (cc : CC fn c rs)
    (h : awp P 0 c (finP P rs r) ⟨enterF 0 args, G, []⟩) (hn : Nat.ble args.length fn.ntmps = true := by rfl) : PCall P G f args r := pcall hm hf cc.ok cc.hr (Nat.le_of_ble_eq_true hn) h
theorem gcallc {P : Program} {G : Nat → AV} (hm : P.follows .mixedOrders = true) {f k : Nat} {fn : Func} {c : ACode} {rs : List ResultVar} {hp hp' : Hp} {args : List AV} {r : AV} (hf : P.funcs[f]? = some fn) (cc : CC fn c rs)
    (h : awp P k c (finG P k rs r hp') ⟨enterF 0 args, G, hp⟩) (hn : Nat.ble args.length fn.ntmps = true := by rfl) : DetCall P G f k hp args r hp' := gcall hm hf cc.ok cc.hr (Nat.le_of_ble_eq_true hn) h
end Go.Proofs.AE
