/- Texts joined. -/
import Derived.Test.YtpdcfljbabpakaaGreatDoorSk2
import Derived.Orders
set_option linter.unusedVariables false
set_option linter.unusedSimpArgs false
namespace Go.Proofs.AE
open Go Go.RowKit
structure AOp where
  dst : Option Nat
  op : Op
  g : Option (Nat × Bool)
def dstOk (n : Nat) : Option Nat → Bool
  | none => true
  | some t => decide (t < n)
def compOp (n : Nat) (ops : Array Oper) (o : Oper) : Option AOp :=
  if dstOk n o.dst = true then
    match o.guard with
    | none => some ⟨o.dst, o.op, none⟩
    | some (j, b) => match (ops[j]?).bind (·.dst) with
      | some t => if t < n then some ⟨o.dst, o.op, some (t, b)⟩ else none
      | none => none
  else none
def compOps (n : Nat) (ops : Array Oper) : List Oper → Option (List AOp)
  | [] => some []
  | o :: os => match compOp n ops o, compOps n ops os with
    | some a, some l => some (a :: l)
    | _, _ => none
def edgesOf (o : Oper) : List Nat := (o.after.toList.filter fun e => Region.binds .any e).map (·.on)
def ancStep (acc : List Nat) (o : Oper) : Nat := (edgesOf o).foldl (fun s j => s ||| 2 ^ j ||| acc.getD j 0) 0
def ancs : List Oper → List Nat → List Nat
  | [], acc => acc
  | o :: os, acc => ancs os (acc ++ [ancStep acc o])
def ancT (ops : Array Oper) : List Nat := ancs ops.toList []
def ancB (A : List Nat) (i j : Nat) : Bool := (A.getD i 0).testBit j
def acyc (ops : Array Oper) : Bool := ops.toList.zipIdx.all fun (o, i) => (edgesOf o).all (· < i)
def isEff : Op → Bool
  | .move _ | .assign _ | .pick .. | .load .. | .binOp .. | .unOp .. | .convert .. | .slice .. | .fieldAddr .. | .field .. | .indexAddr .. | .index .. | .extract .. | .nilCheck _ | .makeFunc .. | .build .. | .lookup .. => false
  | .call { callee := .builtin .len, .. } | .call { callee := .builtin .min, .. } | .call { callee := .builtin .max, .. } => false
  | _ => true
def isReader : Op → Bool
  | .load .. | .convert .. | .indexAddr .. | .call _ | .lookup .. => true
  | _ => false
def namesOf (o : AOp) : List Nat := o.dst.toList ++ (o.op.operands.toList.filterMap fun | .tmp t => some t | _ => none) ++ (match o.g with | some (t, _) => [t] | none => [])
def exts (A : List Nat) : Nat → List Nat → List (List Nat)
  | 0, _ => [[]]
  | f + 1, rest => rest.flatMap fun c => if rest.all (fun r => r == c || !ancB A c r) then (exts A f (rest.erase c)).map (c :: ·) else []
def canon (ops : Array Oper) (eff : Nat → Bool) : Nat → List Nat → List Nat → List Nat → List Nat
  | 0, _, _, _ => []
  | f + 1, done, left, es =>
    match left.find? (fun i => ((ops[i]?).map fun o => (edgesOf o).all done.contains).getD false && (!eff i || es.head? == some i)) with
    | some i => i :: canon ops eff f (i :: done) (left.erase i) (if eff i then es.tail else es)
    | none => []
def effI (ops : Array Oper) (i : Nat) : Bool := match ops[i]? with | some o => isEff o.op | none => false
def compIdx (n : Nat) (ops : Array Oper) : List Nat → Option (List AOp)
  | [] => some []
  | i :: r => match ops[i]? with
    | some o => match compOp n ops o, compIdx n ops r with
      | some a, some l => some (a :: l)
      | _, _ => none
    | none => none
def namesOk (A : List Nat) (ord : List Nat) (al : List AOp) : Bool :=
  (ord.zip al).zipIdx.all fun ((i, a), k) => (ord.zip al).zipIdx.all fun ((j, b), l) =>
    k == l || (match b.dst with
      | some t => !(namesOf a).contains t || ((!decide (l < k) || ancB A i j) && (!decide (k < l) || ancB A j i))
      | none => true)
def pairsOf (A : List Nat) (ord : List Nat) (al : List AOp) : List (Nat × Nat) :=
  (ord.zip al).zipIdx.flatMap fun ((i, a), k) => if isReader a.op && !isEff a.op then
    (ord.zip al).zipIdx.filterMap fun ((j, b), l) => if isEff b.op && (!decide (k < l) || !ancB A j i) && (!decide (l < k) || !ancB A i j) then some (k, l) else none
  else []
def altOf (n : Nat) (ops : Array Oper) (A : List Nat) (e : List Nat) : Option (List AOp × List (Nat × Nat)) :=
  let ord := canon ops (effI ops) ops.size [] (List.range ops.size) e
  if decide ord.Nodup && (List.range ops.size).all ord.contains && (ord.filter (effI ops) == e) then
    match compIdx n ops ord with
    | some al => if namesOk A ord al then some (al, pairsOf A ord al) else none
    | none => none
  else none
def altsOf (n : Nat) (ops : Array Oper) (A : List Nat) : List (List Nat) → Option (List (List AOp × List (Nat × Nat)))
  | [] => some []
  | e :: r => match altOf n ops A e, altsOf n ops A r with | some a, some l => some (a :: l) | _, _ => none
def compDraw (n : Nat) (ops : Array Oper) : Option (List (List AOp × List (Nat × Nat))) :=
  if acyc ops then
    let A := ancT ops
    let E := (List.range ops.size).filter (effI ops)
    altsOf n ops A (exts A E.length E)
  else none
inductive ACode where
  | skip
  | reg (ops : List AOp)
  | regD (alts : List (List AOp × List (Nat × Nat)))
  | seq (a b : ACode)
  | cond (c : Operand) (t e : ACode)
  | block (id : Nat) (c : ACode)
  | loop (c : ACode)
  | exit (id : Nat)
  | ret
def comp (n : Nat) : Code → Option ACode
  | .skip => some .skip
  | .region _ ops false => (compOps n ops ops.toList).map .reg
  | .region _ ops true => (compDraw n ops).map .regD
  | .seq a b => match comp n a, comp n b with | some x, some y => some (.seq x y) | _, _ => none
  | .cond c t e => match comp n t, comp n e with | some x, some y => some (.cond c x y) | _, _ => none
  | .block id c => (comp n c).map (.block id)
  | .loop c => (comp n c).map .loop
  | .exit id => some (.exit id)
  | .ret => some .ret
  | _ => none
end Go.Proofs.AE
set_option linter.unusedVariables false
set_option linter.unusedSimpArgs false
namespace Go.Proofs.AE
open Go Go.RowKit
def frC (i : Nat) (rows : List (List V)) : C → C
  | .ar j => if j = i then .v (.sl rows) else .ar j
  | .eptr j r k off => if j = i then .any else .eptr j r k off
  | c => c
mutual
def frAV (i : Nat) (rows : List (List V)) : AV → AV
  | .one c => .one (frC i rows c)
  | .agg cs => .agg (cs.map (frC i rows))
  | .tup l => .tup (frAVs i rows l)
  | .fn f a b => .fn f (a.map (frC i rows)) (b.map (frC i rows))
  | .any => .any
def frAVs (i : Nat) (rows : List (List V)) : List AV → List AV
  | [] => []
  | v :: l => frAV i rows v :: frAVs i rows l
end
def frB (i : Nat) (rows : List (List V)) : Option Blk → Option Blk
  | some (.box t cs) => some (.box t (cs.map (frC i rows)))
  | b => b
def frF (i : Nat) (rows : List (List V)) : List (Nat × AV) → List (Nat × AV)
  | [] => []
  | (t, v) :: r => (t, frAV i rows v) :: frF i rows r
def frz1 (i : Nat) (s : S) : S :=
  match s.hp[i]? with
  | some (some (.arr _ _ rows)) => ⟨frF i rows s.fr, s.gl, (s.hp.set i none).map (frB i rows)⟩
  | _ => s
def frz : List Nat → S → S
  | [], s => s
  | i :: l, s => frz l (frz1 i s)
def arsCs : List C → List Nat
  | [] => []
  | .ar i :: r => i :: arsCs r
  | _ :: r => arsCs r
def arsAV : AV → List Nat
  | .one (.ar i) => [i]
  | .agg cs => arsCs cs
  | _ => []
def arsOf (ev : Operand → AV) : List Operand → List Nat
  | [] => []
  | x :: r => arsAV (ev x) ++ arsOf ev r
def opsOf : Op → List Operand
  | .store _ _ x => [x]
  | .slice _ x _ _ _ => [x]
  | .build _ parts => parts.toList.map (·.2)
  | .buildSlice _ _ parts => parts.toList.map (·.2)
  | .call { callee := .builtin _, args := args, argTypes := _ } => args.toList.drop 1
  | .call { callee := .value _, args := args, argTypes := _ } => args.toList
  | .convert _ _ x => [x]
  | op => []
section
variable {P : Program} {n : Nat} {w : World} {ok ok' : Nat → Prop} {μ : List MB} {s : S} {a : Act} {i : Nat} {rows : List (List V)}
theorem vrel_of_arr {ok0 : Nat → Prop} {e kk : Nat} {rows : List (List V)} {x : Value} (h : BRel w ok μ (.arr e kk rows) (.arr x)) (ho : ∀ b, ok b → ok0 b) (hx : ∀ b, x.ownBlock = some b → ok0 b) : VRel w ok0 (.sl rows) x := by
  rcases arr_rows h with ⟨rfl, rfl⟩ | ⟨b, off, cap, rfl, hle, hmx, hc⟩
  · exact .nil
  · refine .sl rows b off cap (fun i j => match rows[i]? with | some row => (w.cell? ⟨b, off + (i * row.length + j), none⟩).getD undef | none => undef) (fun _ => hx b rfl) hle hmx ?_ ?_
    · intro i row j v hi hj
      obtain ⟨y, hy, hr⟩ := hc i row j v hi hj
      simp [hi, hy]
    · intro i row j v hi hj
      obtain ⟨y, hy, hr⟩ := hc i row j v hi hj
      simp only [hi, hy, Option.getD_some]
      exact hr.mono (fun _ _ => rfl) ho
theorem frC_rel (ho : ∀ b, ok b → ok' b) (hx : ∀ x, μ[i]? = some (.arr x) → VRel w ok' (.sl rows) x) {c : C} {x : Value} (h : CRel w ok μ c x) : CRel w ok' μ (frC i rows c) x := by
  have hm : CRel w ok' μ c x := h.mono (fun _ _ => rfl) ho
  unfold frC
  split
  · rename_i j
    split
    · rename_i e; subst e
      cases h with | ar hμ h1 => exact .v (hx _ hμ)
    · exact hm
  · split
    · exact .any h.oneCell
    · exact hm
  · exact hm
theorem frCs_rel (ho : ∀ b, ok b → ok' b) (hx : ∀ x, μ[i]? = some (.arr x) → VRel w ok' (.sl rows) x) {cs : List C} {xs : List Value} (h : All2 (CRel w ok μ) cs xs) : All2 (CRel w ok' μ) (cs.map (frC i rows)) xs := by
  induction h with
  | nil => exact .nil
  | cons h _ ih => exact .cons (frC_rel ho hx h) ih
mutual
theorem frAV_rel (ho : ∀ b, ok b → ok' b) (hx : ∀ x, μ[i]? = some (.arr x) → VRel w ok' (.sl rows) x) : ∀ {v : AV} {x : Value}, AVRel w ok μ v x → AVRel w ok' μ (frAV i rows v) x
  | .one _, _, .one h => .one (frC_rel ho hx h)
  | .agg _, _, .agg h => .agg (frCs_rel ho hx h)
  | .tup _, _, .tup h => .tup (frAVs_rel ho hx h)
  | .fn _ _ _, _, .fn h h' => .fn (frCs_rel ho hx h) (frCs_rel ho hx h')
  | .any, _, _ => .any
theorem frAVs_rel (ho : ∀ b, ok b → ok' b) (hx : ∀ x, μ[i]? = some (.arr x) → VRel w ok' (.sl rows) x) : ∀ {l : List AV} {xs : List Value}, AVRels w ok μ l xs → AVRels w ok' μ (frAVs i rows l) xs
  | [], _, .nil => .nil
  | _ :: _, _, .cons h t => .cons (frAV_rel ho hx h) (frAVs_rel ho hx t)
end
theorem frF_get : ∀ (fr : List (Nat × AV)) (t : Nat), getF (frF i rows fr) t = frAV i rows (getF fr t)
  | [], t => by simp [frF, getF, frAV]
  | (u, v) :: r, t => by
    simp only [frF, getF]
    split
    · rfl
    · exact frF_get r t
theorem frz1_st (hst : St n w ok μ s a) : ∃ ok', St n w ok' μ (frz1 i s) a ∧ Step w ok μ s.hp w ok' μ (frz1 i s).hp := by
  unfold frz1
  split
  · rename_i e k rows hi
    obtain ⟨m, hm, hb⟩ := hst.hr.rel _ _ hi
    cases m with
    | box b => exact hb.elim
    | arr y =>
    have s1 := step_freeze hst.hr ⟨_, hi⟩ hm
    have hx : ∀ x, μ[i]? = some (.arr x) → VRel w (fun b => ok b ∨ (MB.arr y).own = some b) (.sl rows) x := by
      intro x hx
      rw [hm] at hx; cases hx
      exact vrel_of_arr hb (fun _ h => .inl h) fun b hb' => .inr hb'
    have ho : ∀ b, ok b → (ok b ∨ (MB.arr y).own = some b) := fun _ h => .inl h
    have hr' : HR w (fun b => ok b ∨ (MB.arr y).own = some b) μ ((s.hp.set i none).map (frB i rows)) := by
      have h0 := s1.hr
      have inv : ∀ (j : Nat) b, ((s.hp.set i none).map (frB i rows))[j]? = some (some b) → ∃ b0, (s.hp.set i none)[j]? = some (some b0) ∧ frB i rows (some b0) = some b := by
        intro j b h
        rw [List.getElem?_map] at h
        cases h1 : (s.hp.set i none)[j]? with
        | none => rw [h1] at h; simp at h
        | some o =>
          rw [h1] at h
          cases o with
          | none => simp [frB] at h
          | some b0 => exact ⟨b0, rfl, by simpa using h⟩
      refine ⟨by simp [hst.hr.len], ?_, ?_, ?_⟩
      · intro j b hj
        obtain ⟨b0, h1, h2⟩ := inv j b hj
        have h1' : s.hp[j]? = some (some b0) := by
          rcases getElem?_set_cases h1 with ⟨_, h⟩ | ⟨_, h⟩
          · cases h
          · exact h
        obtain ⟨q, h3, h4⟩ := h0.rel j b0 h1
        obtain ⟨q', h3', h4'⟩ := hst.hr.rel j b0 h1'
        rw [h3] at h3'; cases h3'
        refine ⟨q, h3, ?_⟩
        cases b0 with
        | arr e' k' rows' => simp only [frB, Option.some.injEq] at h2; subst h2; exact h4
        | arj e' k' n' rows' => simp only [frB, Option.some.injEq] at h2; subst h2; exact h4
        | mp t' es' => simp only [frB, Option.some.injEq] at h2; subst h2; exact h4
        | box t cs =>
          simp only [frB, Option.some.injEq] at h2; subst h2
          cases q with
          | arr => exact h4.elim
          | box b =>
            obtain ⟨xs, g1, g2⟩ := h4'
            exact ⟨xs, g1, frCs_rel ho hx g2⟩
      · intro j1 j2 b c p q k' hij hb1 hc1 hp hq hk
        obtain ⟨b0, h1, _⟩ := inv j1 b hb1
        obtain ⟨c0, h2, _⟩ := inv j2 c hc1
        exact h0.inj j1 j2 b0 c0 p q k' hij h1 h2 hp hq hk
      · intro k' hk'
        refine ⟨(h0.okn k' hk').1, fun j b q hj hq => ?_⟩
        obtain ⟨b0, h1, _⟩ := inv j b hj
        exact (h0.okn k' hk').2 j b0 q h1 hq
    refine ⟨_, ⟨hr', hst.size, hst.defers, fun t => ?_, fun g ν => (hst.gl g ν).mono (fun _ _ => rfl) ho⟩, ⟨hr', s1.os, s1.tape, s1.output, s1.size, s1.frame, s1.oksub, s1.okfrom, ?_, s1.ext⟩⟩
    · show AVRel w _ μ (getF (frF i rows s.fr) t) _
      rw [frF_get]; exact frAV_rel ho hx (hst.fr t)
    · rintro b ⟨j, blk, m', h1, h2, h3⟩
      rw [List.getElem?_map] at h1
      cases h4 : (s.hp.set i none)[j]? with
      | none => rw [h4] at h1; simp at h1
      | some o =>
        cases o with
        | none => rw [h4] at h1; simp [frB] at h1
        | some b0 => exact s1.ownfrom b ⟨j, b0, m', h4, h2, h3⟩
  · exact ⟨ok, hst, Step.refl hst.hr⟩
theorem frz_st : ∀ {l : List Nat} {s : S} {ok : Nat → Prop}, St n w ok μ s a → ∃ ok', St n w ok' μ (frz l s) a ∧ Step w ok μ s.hp w ok' μ (frz l s).hp
  | [], s, ok, h => ⟨ok, h, Step.refl h.hr⟩
  | i :: l, s, ok, h => by
    obtain ⟨ok1, h1, s1⟩ := frz1_st (i := i) h
    obtain ⟨ok2, h2, s2⟩ := frz_st (l := l) h1
    exact ⟨ok2, h2, s1.trans s2⟩
theorem frz1_gl : (frz1 i s).gl = s.gl := by unfold frz1; split <;> rfl
theorem frz_gl : ∀ {l : List Nat} {s : S}, (frz l s).gl = s.gl
  | [], _ => rfl
  | i :: l, s => by rw [frz, frz_gl, frz1_gl]
end
def flatC : C → Bool
  | .v (.lit _) => true
  | _ => false
mutual
def flatAV : AV → Bool
  | .one c => flatC c
  | .agg cs => cs.all flatC
  | .tup l => flatAVs l
  | _ => false
def flatAVs : List AV → Bool
  | [] => true
  | v :: l => flatAV v && flatAVs l
end
def idC : C → Bool
  | .v _ | .vptr _ | .full _ | .nil => true
  | _ => false
mutual
def idAV : AV → Bool
  | .one c => idC c
  | .agg cs => cs.all idC
  | .fn _ a b => a.all idC && b.all idC
  | .tup l => idAVs l
  | .any => true
def idAVs : List AV → Bool
  | [] => true
  | v :: l => idAV v && idAVs l
end
section
variable {P : Program} {n : Nat} {w w' w2 : World} {ok ok' ok2 : Nat → Prop} {μ μ' μ2 : List MB} {hp hp' : Hp}
theorem flatC_rel {c : C} {x : Value} (h : flatC c = true) (hr : CRel w ok μ c x) : CRel w2 ok2 μ2 c x := by
  unfold flatC at h
  split at h
  · cases hr with | v hr => cases hr with | lit _ h => exact .v (.lit _ h)
  · cases h
theorem flatCs_rel : ∀ {cs : List C} {xs : List Value}, cs.all flatC = true → All2 (CRel w ok μ) cs xs → All2 (CRel w2 ok2 μ2) cs xs
  | [], _, _, .nil => .nil
  | c :: cs, _, h, .cons hc ht => by
    simp only [List.all_cons, Bool.and_eq_true] at h
    exact .cons (flatC_rel h.1 hc) (flatCs_rel h.2 ht)
mutual
theorem flatAV_rel : ∀ {v : AV} {x : Value}, flatAV v = true → AVRel w ok μ v x → AVRel w2 ok2 μ2 v x
  | .one _, _, h, .one hc => .one (flatC_rel h hc)
  | .agg _, _, h, .agg hc => .agg (flatCs_rel h hc)
  | .tup _, _, h, .tup ht => .tup (flatAVs_rel h ht)
theorem flatAVs_rel : ∀ {l : List AV} {xs : List Value}, flatAVs l = true → AVRels w ok μ l xs → AVRels w2 ok2 μ2 l xs
  | [], _, _, .nil => .nil
  | v :: l, _, h, .cons hv ht => by
    simp only [flatAVs, Bool.and_eq_true] at h
    exact .cons (flatAV_rel h.1 hv) (flatAVs_rel h.2 ht)
end
theorem not_own_nil {μ : List MB} {b : Nat} : ¬ OwnL [] μ b := fun ⟨i, blk, m, h, _⟩ => by simp at h
theorem hr_nil (h : ∀ b, ok b → b < w.heap.size) : HR w ok [] [] :=
  ⟨rfl, fun i b h => by simp at h, fun i j b c m n k _ h => by simp at h, fun k hk => ⟨h k hk, fun i b m h => by simp at h⟩⟩
theorem step_frame (hr : HR w ok μ hp) (hs : Step w ok [] [] w' ok' μ' []) : Step w ok μ hp w' ok' μ hp := by
  have hf : ∀ b, b < w.heap.size → w'.heap[b]? = w.heap[b]? := fun b hb => hs.frame b hb not_own_nil
  refine ⟨⟨hr.len, ?_, hr.inj, ?_⟩, hs.os, hs.tape, hs.output, hs.size, fun b hb _ => hf b hb, hs.oksub, ?_, fun b h => .inr h, fun _ _ h => h⟩
  · intro i b hb
    obtain ⟨m, h1, h2⟩ := hr.rel i b hb
    exact ⟨m, h1, h2.mono (fun b hb => hf b (hr.keep hb).1) hs.oksub (fun _ _ h => h) fun b hb => hf b (h2.lt hb)⟩
  · intro b hb
    refine ⟨(hs.hr.okn b hb).1, fun i c m h1 h2 h3 => ?_⟩
    rcases hs.okfrom b hb with h4 | h4 | h4
    · exact (hr.okn b h4).2 i c m h1 h2 h3
    · have := hr.own_lt ⟨i, c, m, h1, h2, h3⟩; omega
    · exact not_own_nil h4
  · intro b hb
    rcases hs.okfrom b hb with h4 | h4 | h4
    · exact .inl h4
    · exact .inr (.inl h4)
    · exact (not_own_nil h4).elim
theorem idC_rel {c : C} {x : Value} (h : idC c = true) (hr : CRel w ok μ c x) : CRel w ok μ2 c x := by
  cases hr with
  | v h1 => exact .v h1
  | vptr b off cv a b' c => exact .vptr _ _ _ a b' c
  | full h1 => exact .full h1
  | nil => exact .nil
  | _ => simp [idC] at h
theorem idCs_rel : ∀ {cs : List C} {xs : List Value}, cs.all idC = true → All2 (CRel w ok μ) cs xs → All2 (CRel w ok μ2) cs xs
  | [], _, _, .nil => .nil
  | c :: cs, _, h, .cons hc ht => by
    simp only [List.all_cons, Bool.and_eq_true] at h
    exact .cons (idC_rel h.1 hc) (idCs_rel h.2 ht)
mutual
theorem idAV_rel : ∀ {v : AV} {x : Value}, idAV v = true → AVRel w ok μ v x → AVRel w ok μ2 v x
  | .one _, _, h, .one hc => .one (idC_rel h hc)
  | .agg _, _, h, .agg hc => .agg (idCs_rel h hc)
  | .tup _, _, h, .tup ht => .tup (idAVs_rel h ht)
  | .fn _ _ _, _, h, .fn h1 h2 => by
    simp only [idAV, Bool.and_eq_true] at h
    exact .fn (idCs_rel h.1 h1) (idCs_rel h.2 h2)
  | .any, _, _, _ => .any
theorem idAVs_rel : ∀ {l : List AV} {xs : List Value}, idAVs l = true → AVRels w ok μ l xs → AVRels w ok μ2 l xs
  | [], _, _, .nil => .nil
  | v :: l, _, h, .cons hv ht => by
    simp only [idAVs, Bool.and_eq_true] at h
    exact .cons (idAV_rel h.1 hv) (idAVs_rel h.2 ht)
end
theorem borrow_step (hr : HR w ok μ hp) (hs : Step w ok2 [] [] w' ok' μ' []) : Step w ok μ hp w' ok μ hp := by
  have hf : ∀ b, b < w.heap.size → w'.heap[b]? = w.heap[b]? := fun b hb => hs.frame b hb not_own_nil
  refine ⟨⟨hr.len, ?_, hr.inj, ?_⟩, hs.os, hs.tape, hs.output, hs.size, fun b hb _ => hf b hb, fun _ h => h, fun b h => .inl h, fun b h => .inr h, fun _ _ h => h⟩
  · intro i b hb
    obtain ⟨m, h1, h2⟩ := hr.rel i b hb
    exact ⟨m, h1, h2.mono (fun b hb => hf b (hr.keep hb).1) (fun _ h => h) (fun _ _ h => h) fun b hb => hf b (h2.lt hb)⟩
  · intro b hb
    exact ⟨Nat.lt_of_lt_of_le (hr.keep hb).1 hs.size, (hr.okn b hb).2⟩
end
def nzC (hp : Hp) : C → C
  | .ar i => match hp[i]? with | some (some (.arr _ _ rows)) => .v (.sl rows) | _ => .ar i
  | .nil => .v (.sl [])
  | .full rows => .v (.sl rows)
  | c => c
def nzCs (hp : Hp) : List C → List C
  | [] => []
  | c :: r => nzC hp c :: nzCs hp r
def nzAV (hp : Hp) : AV → AV
  | .one c => .one (nzC hp c)
  | .agg cs => .agg (nzCs hp cs)
  | v => v
def dropF : List Nat → Hp → Hp
  | [], hp => hp
  | i :: l, hp => dropF l (hp.set i none)
def frzOp (P : Program) (hp : Hp) (ev : Operand → AV) : Op → Option (Prop × AV × Hp)
  | .buildSlice t len parts => match (tiOf P t).map TI.sh with
    | some (.slice e) => match tiOf P e with
      | some j => if j.size ≠ 0 ∧ len * j.size ≤ 2 ^ 24 ∧ parts.size = len then
          (partRows j.size 0 (parts.toList.map fun (k, x) => (k, nzAV hp (ev x)))).map fun rows => (True, .one (.ar (dropF (arsOf ev (parts.toList.map (·.2))) hp).length), dropF (arsOf ev (parts.toList.map (·.2))) hp ++ [some (.arr e j.size rows)])
        else none
      | none => none
    | _ => none
  | _ => none
end Go.Proofs.AE
set_option linter.unusedVariables false
set_option linter.unusedSimpArgs false
namespace Go.Proofs.AE
open Go Go.RowKit
structure Far (k : Nat) (w : World) (ok : Nat → Prop) (μ : List MB) (hp : Hp) (w' : World) (ok' : Nat → Prop) (μ' : List MB) (hp' : Hp) : Prop where
  hr : HR w' ok' μ' hp'
  os : w'.os = w.os
  tape : w'.tape = w.tape
  output : w'.output = w.output
  size : w.heap.size ≤ w'.heap.size
  frame : ∀ b, b < w.heap.size → ¬ OwnL hp μ b → w'.heap[b]? = w.heap[b]?
  oksub : ∀ b, ok b → ok' b
  okfrom : ∀ b, ok' b → ok b ∨ w.heap.size ≤ b ∨ OwnL hp μ b
  ownfrom : ∀ b, OwnL hp' μ' b → w.heap.size ≤ b ∨ OwnL hp μ b
  ext : ∀ (i : Nat) m, i < k → μ[i]? = some m → μ'[i]? = some m
theorem Step.far {k : Nat} {w w' : World} {ok ok' : Nat → Prop} {μ μ' : List MB} {hp hp' : Hp} (h : Step w ok μ hp w' ok' μ' hp') : Far k w ok μ hp w' ok' μ' hp' :=
  ⟨h.hr, h.os, h.tape, h.output, h.size, h.frame, h.oksub, h.okfrom, h.ownfrom, fun i m _ => h.ext i m⟩
theorem Far.step {w w' : World} {ok ok' : Nat → Prop} {μ μ' : List MB} {hp hp' : Hp} (h : Far μ.length w ok μ hp w' ok' μ' hp') : Step w ok μ hp w' ok' μ' hp' :=
  ⟨h.hr, h.os, h.tape, h.output, h.size, h.frame, h.oksub, h.okfrom, h.ownfrom, fun i m hm => h.ext i m (lt_of_getElem? hm) hm⟩
theorem Far.trans {k : Nat} {w w' w'' : World} {ok ok' ok'' : Nat → Prop} {μ μ' μ'' : List MB} {hp hp' hp'' : Hp} (h : Far k w ok μ hp w' ok' μ' hp') (h' : Far k w' ok' μ' hp' w'' ok'' μ'' hp'') : Far k w ok μ hp w'' ok'' μ'' hp'' where
  hr := h'.hr
  os := h'.os.trans h.os
  tape := h'.tape.trans h.tape
  output := h'.output.trans h.output
  size := Nat.le_trans h.size h'.size
  frame b hb hn := by
    rw [h'.frame b (Nat.lt_of_lt_of_le hb h.size) (fun ho => by rcases h.ownfrom b ho with h1 | h1; omega; exact hn h1), h.frame b hb hn]
  oksub b hb := h'.oksub b (h.oksub b hb)
  okfrom b hb := by
    rcases h'.okfrom b hb with h1 | h1 | h1
    · exact h.okfrom b h1
    · exact .inr (.inl (Nat.le_trans h.size h1))
    · rcases h.ownfrom b h1 with h2 | h2
      · exact .inr (.inl h2)
      · exact .inr (.inr h2)
  ownfrom b hb := by
    rcases h'.ownfrom b hb with h1 | h1
    · exact .inl (Nat.le_trans h.size h1)
    · exact h.ownfrom b h1
  ext i m hi hm := h'.ext i m hi (h.ext i m hi hm)
def GRel (w : World) (ok : Nat → Prop) (G : Nat → AV) : Prop := ∀ g ν, AVRel w ok ν (G g) (.pointer (some ⟨g, 0, none⟩))
def ACall (P : Program) (G : Nat → AV) (f : Nat) (hp : Hp) (args : List AV) (K : AV → Hp → Prop) : Prop :=
  ∀ (w : World) (ok : Nat → Prop) (μ : List MB) (xs : List Value), HR w ok μ hp → GRel w ok G → AVRels w ok μ args xs →
    Calls P f xs.toArray w fun e w' => ∃ x r hp' ok' μ', e = .returned x ∧ Step w ok μ hp w' ok' μ' hp' ∧ AVRel w' ok' μ' r x ∧ K r hp'
theorem ACall.mono {P : Program} {G : Nat → AV} {f : Nat} {hp : Hp} {args : List AV} {K K' : AV → Hp → Prop} (h : ACall P G f hp args K) (hk : ∀ r hp', K r hp' → K' r hp') : ACall P G f hp args K' :=
  fun w ok μ xs h1 h2 h3 => (h w ok μ xs h1 h2 h3).mono fun _ _ ⟨x, r, hp', ok', μ', a, b, c, d⟩ => ⟨x, r, hp', ok', μ', a, b, c, hk _ _ d⟩
def enters (P : Program) (g : Nat) : Bool := match P.funcs[g]? with | some fn => !(fn.name == "runtime.NumGoroutine") && !fn.body.isNone | none => false
def callOf (ev : Operand → AV) : Op → Option (Nat × List AV)
  | .call { callee := .value f, args := args, argTypes := _ } => match ev f with
    | .fn g first caps => some (g, first.map .one ++ args.toList.map ev ++ caps.map .one)
    | _ => none
  | _ => none
def nilTest (P : Program) (hp : Hp) (ev : Operand → AV) : Op → Option (Bool × List (List V))
  | .binOp op t x y _ => match op, (tiOf P t).map TI.sh, ev y, rowsOf hp (ev x) with
    | .eql, some (.slice _), .one .nil, some rows => some (false, rows)
    | .neq, some (.slice _), .one .nil, some rows => some (true, rows)
    | _, _, _, _ => none
  | _ => none
def pickOf (ev : Operand → AV) : Op → Option (Bool × AV × AV)
  | .pick c a b => match ev c with | .one (.v (.lit (.bool q))) => some (q, ev a, ev b) | _ => none
  | _ => none
def bl (b : Bool) : AV := .one (.v (.lit (.bool b)))
structure Held.{u} {α : Sort u} (a : α) : Type where
def Cnd (b want : Bool) (s s' : S) (A B : S → Prop) (_ : Held A) (_ : Held B) : Prop := (b = want → A s) ∧ (b = !want → B s')
def CallK (P : Program) (G : Nat → AV) (f : Nat) (hp : Hp) (args : List AV) (K : AV → Hp → Prop) (_ : Held K) : Prop := ACall P G f hp args K
def FrzK (P : Program) (o : AOp) (s : S) (K : S → Prop) (_ : Held K) : Prop :=
  match callOf s.eval o.op with
  | some (f, args) => enters P f = true ∧ CallK P s.gl f s.hp args (fun r hp' => K ({ s with hp := hp' }.put o.dst r)) ⟨⟩
  | none => False
def CallB (P : Program) (G : Nat → AV) (f : Nat) (args : List AV) (K : AV → Prop) (_ : Held K) : Prop := ∃ r, idAVs args = true ∧ flatAV r = true ∧ K r ∧ ACall P G f [] args fun r' hp' => hp' = [] ∧ r' = r
def BorK (P : Program) (o : AOp) (s s' : S) (K : S → Prop) (_ : Held K) : Prop :=
  match callOf s'.eval o.op with
  | some (f, args) => enters P f = true ∧ CallB P s.gl f args (fun r => K (s.put o.dst r)) ⟨⟩
  | none => False
def CallZ (P : Program) (o : AOp) (s : S) (f : Nat) (args : List AV) (K : S → Prop) (_ : Held K) : Prop :=
  CallK P s.gl f s.hp args (fun r hp' => K ({ s with hp := hp' }.put o.dst r)) ⟨⟩ ∨ BorK P o s (frz (arsOf s.eval (opsOf o.op)) s) K ⟨⟩ ∨ FrzK P o (frz (arsOf s.eval (opsOf o.op)) s) K ⟨⟩
def aop1 (P : Program) (o : AOp) (s : S) (K : S → Prop) : Prop :=
  match pureOp P s.hp s.eval o.op with
  | some (p, v) => p ∧ K (s.put o.dst v)
  | none => match heapOp P s.hp s.eval o.op with
    | some (p, v, hp') => p ∧ K ({ s with hp := hp' }.put o.dst v)
    | none => False
def aopL (P : Program) (o : AOp) (s : S) (K : S → Prop) : Prop :=
  match pickOf s.eval o.op with
  | some (q, a, b) => Cnd q true (s.put o.dst a) (s.put o.dst b) K K ⟨⟩ ⟨⟩
  | none => match nilTest P s.hp s.eval o.op with
    | some (neg, rows) => ∀ q : Bool, (q = true → rows = []) → K (s.put o.dst (bl (q != neg)))
    | none => aop1 P o (frz (arsOf s.eval (opsOf o.op)) s) K
def aopC (P : Program) (o : AOp) (s : S) (K : S → Prop) : Prop :=
  match callOf s.eval o.op with
  | some (f, args) => enters P f = true ∧ CallZ P o s f args K ⟨⟩
  | none => aopL P o s K
def aopJ (P : Program) (o : AOp) (s : S) (K : S → Prop) : Prop :=
  match exOp P s.hp s.eval o.op with
  | some (p, v, hp') => p ∧ K ({ s with hp := hp' }.put o.dst v)
  | none => match arjNewG P s.hp s.eval o.op with
    | some (p, lo, F) => p ∧ ∀ c, lo ≤ c → c ≤ maxLen → K ({ s with hp := (F c).2 }.put o.dst (F c).1)
    | none => aopC P o s K
def aopH (P : Program) (o : AOp) (s : S) (K : S → Prop) : Prop :=
  match heapOp P s.hp s.eval o.op with
  | some (p, v, hp') => p ∧ K ({ s with hp := hp' }.put o.dst v)
  | none => aopJ P o s K
def aop (P : Program) (o : AOp) (s : S) (K : S → Prop) : Prop :=
  match pureOp P s.hp s.eval o.op with
  | some (p, v) => p ∧ K (s.put o.dst v)
  | none => aopH P o s K
def aops (P : Program) : List AOp → S → (S → Prop) → Prop
  | [], s, K => K s
  | o :: os, s, K =>
    match o.g with
    | none => aop P o s fun s' => aops P os s' K
    | some (t, want) => match getF s.fr t with
      | .one (.v (.lit (.bool b))) => Cnd b want (s.put (some t) (bl want)) ((s.put (some t) (bl (!want))).put o.dst (.tup [])) (fun s => aop P o s fun s' => aops P os s' K) (fun s => aops P os s K) ⟨⟩ ⟨⟩
      | .tup [] => aops P os (s.put o.dst (.tup [])) K
      | _ => False
def DCall (P : Program) (G : Nat → AV) (f : Nat) (hp : Hp) (args : List AV) (K : AV → Hp → Prop) (_ : Held K) : Prop :=
  ∃ r hp', (ACall P G f hp args fun r' hp'' => r' = r ∧ hp'' = hp') ∧ K r hp'
def aopDH (P : Program) (o : AOp) (s : S) (K : S → Prop) : Prop :=
  match heapOp P s.hp s.eval o.op with
  | some (p, v, hp') => p ∧ K ({ s with hp := hp' }.put o.dst v)
  | none => match exOp P s.hp s.eval o.op with
   | some (p, v, hp') => p ∧ K ({ s with hp := hp' }.put o.dst v)
   | none => match callOf s.eval o.op with
    | some (f, args) => enters P f = true ∧ DCall P s.gl f s.hp args (fun r hp' => K ({ s with hp := hp' }.put o.dst r)) ⟨⟩
    | none => match pickOf s.eval o.op with
      | some (q, a, b) => Cnd q true (s.put o.dst a) (s.put o.dst b) K K ⟨⟩ ⟨⟩
      | none => match frzOp P s.hp s.eval o.op with
        | some (p, v, hp') => p ∧ K ({ s with hp := hp' }.put o.dst v)
        | none => False
def aopD (P : Program) (o : AOp) (s : S) (K : S → Prop) : Prop :=
  match pureOp P s.hp s.eval o.op with
  | some (p, v) => p ∧ K (s.put o.dst v)
  | none => aopDH P o s K
def aopsD (P : Program) : List AOp → List S → S → (List S → S → Prop) → Prop
  | [], h, s, K => K h s
  | o :: os, h, s, K =>
    match o.g with
    | none => aopD P o s fun s' => aopsD P os (h ++ [s']) s' K
    | some (t, want) => match getF s.fr t with
      | .one (.v (.lit (.bool b))) => Cnd b want (s.put (some t) (bl want)) ((s.put (some t) (bl (!want))).put o.dst (.tup [])) (fun s => aopD P o s fun s' => aopsD P os (h ++ [s']) s' K) (fun s => aopsD P os (h ++ [s]) s K) ⟨⟩ ⟨⟩
      | .tup [] => aopsD P os (h ++ [s.put o.dst (.tup [])]) (s.put o.dst (.tup [])) K
      | _ => False
def stables (P : Program) (al : List AOp) (st : List S) : List (Nat × Nat) → Prop
  | [] => True
  | (k, l) :: r => (match al[k]?, st[k]?, st[l]?, st[l + 1]? with
      | some a, some sk, some sl, some sm => pureOp P sm.hp sk.eval a.op = pureOp P sl.hp sk.eval a.op
      | _, _, _, _ => False) ∧ stables P al st r
def allAlts (P : Program) (s : S) (K : S → Prop) : List (List AOp × List (Nat × Nat)) → Prop
  | [] => True
  | (al, ps) :: r => aopsD P al [] s (fun h s' => stables P al (s :: h) ps ∧ K s') ∧ allAlts P s K r
def thenA (next : S → Prop) (Q : Exit → S → Prop) : Exit → S → Prop
  | .normal, s => next s
  | e, s => Q e s
def blockA (id : Nat) (Q : Exit → S → Prop) : Exit → S → Prop
  | .exit id', s => if id' = id then Q .normal s else Q (.exit id') s
  | e, s => Q e s
def Weak (k : Nat) (s s' : S) : Prop :=
  s'.gl = s.gl ∧ ∀ (n : Nat) (w : World) (ok : Nat → Prop) (μ : List MB) (a : Act), St n w ok μ s a → ∃ ok' μ', St n w ok' μ' s' a ∧ Far k w ok μ s.hp w ok' μ' s'.hp
def Wk (k : Nat) (s : S) (K : S → Prop) (_ : Held K) : Prop := ∃ s', Weak k s s' ∧ K s'
def awp (P : Program) (k : Nat) : ACode → (Exit → S → Prop) → S → Prop
  | .skip, Q, s => Q .normal s
  | .reg ops, Q, s => aops P ops s (Q .normal)
  | .regD alts, Q, s => allAlts P s (fun s' => Wk k s' (Q .normal) ⟨⟩) alts
  | .seq a b, Q, s => awp P k a (thenA (awp P k b Q) Q) s
  | .cond c t e, Q, s => match s.eval c with
    | .one (.v (.lit (.bool b))) => Cnd b true s s (awp P k t Q) (awp P k e Q) ⟨⟩ ⟨⟩
    | _ => False
  | .block id c, Q, s => awp P k c (blockA id Q) s
  | .loop c, Q, s => ∃ (I : S → Prop) (m : S → Nat), (∃ s0, Weak k s s0 ∧ I s0) ∧ ∀ s, I s → awp P k c (thenA (fun s' => ∃ s'', Weak k s' s'' ∧ I s'' ∧ m s'' < m s) Q) s
  | .exit id, Q, s => Q (.exit id) s
  | .ret, Q, s => Q .ret s
section
variable {P : Program} {G : Nat → AV} {k n : Nat} {w w0 : World} {ok ok0 : Nat → Prop} {μ μ0 : List MB} {hp0 : Hp} {s : S} {a : Act}
def Holds (k n : Nat) (w0 : World) (ok0 : Nat → Prop) (μ0 : List MB) (hp0 : Hp) (G : Nat → AV) (K : S → Prop) (a : Act) (w : World) : Prop :=
  ∃ ok μ s, St n w ok μ s a ∧ Far k w0 ok0 μ0 hp0 w ok μ s.hp ∧ s.gl = G ∧ K s
theorem Act.put_size (a : Act) (d : Option Nat) (x : Value) : (a.put d x).tmps.size = a.tmps.size := by
  cases d <;> simp [Act.put]
theorem St.put (h : St n w ok μ s a) {v : AV} {x : Value} (hv : AVRel w ok μ v x) {d : Option Nat} (hd : ∀ t, d = some t → t < n) : St n w ok μ (s.put d v) (a.put d x) := by
  cases d with
  | none => exact h
  | some t =>
    refine ⟨h.hr, by rw [Act.put_size]; exact h.size, h.defers, fun u => ?_, h.gl⟩
    have hlt := hd t rfl
    simp only [S.put, Act.put, getF]
    by_cases hu : t = u
    · subst hu
      rw [if_pos rfl]
      simp [Array.getD_eq_getD_getElem?, h.size, hlt, hv]
    · rw [if_neg hu]
      simp only [Array.getD_eq_getD_getElem?, Array.getElem?_setIfInBounds_ne hu]
      have := h.fr u
      rwa [Array.getD_eq_getD_getElem?] at this
theorem St.reput (h : St n w ok μ s a) {t : Nat} {v : AV} (hv : getF s.fr t = v) : St n w ok μ (s.put (some t) v) a := by
  refine ⟨h.hr, h.size, h.defers, fun u => ?_, h.gl⟩
  simp only [S.put, getF]
  by_cases hu : t = u
  · subst hu; rw [if_pos rfl, ← hv]; exact h.fr t
  · rw [if_neg hu]; exact h.fr u
theorem St.step (h : St n w ok μ s a) {w' : World} {ok' : Nat → Prop} {μ' : List MB} {hp' : Hp} (hs : Step w ok μ s.hp w' ok' μ' hp') : St n w' ok' μ' { s with hp := hp' } a :=
  ⟨hs.hr, h.size, h.defers, fun t => hs.av h.hr (h.fr t), fun g ν => (h.gl g ν).mono (hs.keep h.hr) hs.oksub⟩
theorem Holds.mono {K K' : S → Prop} (h : Holds k n w0 ok0 μ0 hp0 G K a w) (hk : ∀ s, K s → K' s) : Holds k n w0 ok0 μ0 hp0 G K' a w :=
  let ⟨ok, μ, s, h1, h2, h3, h4⟩ := h; ⟨ok, μ, s, h1, h2, h3, hk s h4⟩
theorem avrels_append {l l' : List AV} {xs xs' : List Value} (h : AVRels w ok μ l xs) (h' : AVRels w ok μ l' xs') : AVRels w ok μ (l ++ l') (xs ++ xs') := by
  induction l generalizing xs with
  | nil => cases h; exact h'
  | cons v l ih => cases h with | cons h t => exact .cons h (ih t)
theorem avrels_one {cs : List C} {xs : List Value} (h : All2 (CRel w ok μ) cs xs) : AVRels w ok μ (cs.map .one) xs := by
  induction h with
  | nil => exact .nil
  | cons h _ ih => exact .cons (.one h) ih
theorem run_equalIn_nil {t e : TypeId} (hu : P.underlying t = some (.slice e)) (d : Nat) (z : Option Addr) (l c : Nat) : (Op.equalIn (d + 1) t (.slice z l c) (.slice none 0 0)).run P w = .ok z.isNone w := by
  cases z <;> simp [Op.equalIn, run_underlying hu]
theorem run_equal_nil {t e : TypeId} (hu : P.underlying t = some (.slice e)) (z : Option Addr) (l c : Nat) : (Op.equal t (.slice z l c) (.slice none 0 0)).run P w = .ok z.isNone w :=
  run_equalIn_nil hu 9999 z l c
theorem call_run {o : Oper} (hst : St n w ok μ s a) {f : Nat} {args : List AV} (hc : callOf s.eval o.op = some (f, args)) (hent : enters P f = true) :
    ∃ xs : List Value, AVRels w ok μ args xs ∧ (execOp a.eval o).run P w = .ok (.enter f xs.toArray) w := by
  unfold callOf at hc
  split at hc
  · rename_i fo as ts heq
    split at hc
    · rename_i g first caps hfe
      cases hc
      have hfr := hst.eval fo
      rw [hfe] at hfr
      cases hfv : a.eval fo with
      | func fn fs cs =>
        rw [hfv] at hfr
        cases hfr with | fn hfirst hcaps =>
        have hargs : AVRels w ok μ (first.map .one ++ as.toList.map s.eval ++ caps.map .one) (fs.toList ++ (as.toList.map a.eval) ++ cs.toList) :=
          avrels_append (avrels_append (avrels_one hfirst) (avrels_map hst.eval as.toList)) (avrels_one hcaps)
        refine ⟨_, hargs, ?_⟩
        unfold enters at hent
        split at hent
        · rename_i fn hfn
          simp only [Bool.and_eq_true, Bool.not_eq_true'] at hent
          simp only [execOp, heq, resolve, hfv, Deferred.ofValue, Sem.run_bind, Sem.run_pure, Result.andThen_ok, invoke, callFunc, run_program, hfn, hent.1, hent.2, Bool.false_eq_true, if_false]
          congr 2
          apply Array.ext'
          simp
        · cases hent
      | _ => rw [hfv] at hfr; cases hfr
    · cases hc
  · cases hc
theorem aop_sound {o : Oper} {ao : AOp} (hao : ao.dst = o.dst ∧ ao.op = o.op) (hd : ∀ t, o.dst = some t → t < n) (hst : St n w ok μ s a) (hfar : Far k w0 ok0 μ0 hp0 w ok μ s.hp) (hg : s.gl = G)
    {K : S → Prop} (h : aop P ao s K) {K' : Act → World → Prop} (hK : ∀ a w, Holds k n w0 ok0 μ0 hp0 G K a w → K' a w) {Q : Exit → Act → World → Prop} : o.wp P a w K' Q := by
  obtain ⟨h1, h2⟩ := hao
  unfold aop aopH aopJ aopC aopL at h
  rw [h1, h2] at h
  unfold Oper.wp
  split at h
  · rename_i p v hp
    obtain ⟨hpp, hk⟩ := h
    obtain ⟨x, hx, hr⟩ := pureOp_sound (w := w) hst.hr hst.eval hp hpp
    rw [hx]
    exact hK _ _ ⟨ok, μ, _, hst.put hr hd, by cases o.dst <;> exact hfar, by cases o.dst <;> exact hg, hk⟩
  · split at h
    · rename_i p v hp' hp
      obtain ⟨hpp, hk⟩ := h
      obtain ⟨nx, w', μ', hx, hs, hr⟩ := heapOp_sound (w := w) hst.hr hst.eval hp hpp
      rw [hx]
      have hfar' := hfar.trans (hs.far (k := k))
      rcases hr with ⟨x, rfl, hr⟩ | ⟨rfl, rfl⟩
      · exact hK _ _ ⟨ok, μ', _, (hst.step hs).put hr hd, by cases o.dst <;> exact hfar', by cases o.dst <;> exact hg, hk⟩
      · exact hK _ _ ⟨ok, μ', _, (hst.step hs).put .any hd, by cases o.dst <;> exact hfar', by cases o.dst <;> exact hg, hk⟩
    · split at h
      · rename_i p v hp' hp
        obtain ⟨hpp, hk⟩ := h
        obtain ⟨nx, w', μ', hx, hs, hr⟩ := exOp_sound (w := w) hst.hr hst.eval hp hpp
        rw [hx]
        have hfar' := hfar.trans (hs.far (k := k))
        rcases hr with ⟨x, rfl, hr⟩ | ⟨rfl, rfl⟩
        · exact hK _ _ ⟨ok, μ', _, (hst.step hs).put hr hd, by cases o.dst <;> exact hfar', by cases o.dst <;> exact hg, hk⟩
        · exact hK _ _ ⟨ok, μ', _, (hst.step hs).put .any hd, by cases o.dst <;> exact hfar', by cases o.dst <;> exact hg, hk⟩
      split at h
      · rename_i p lo F hp
        obtain ⟨hpp, hk⟩ := h
        obtain ⟨c, hc1, hc2, nx, w', μ', hx, hs, hr⟩ := arjNewG_sound (w := w) hst.hr hst.eval hp hpp
        have hk := hk c hc1 hc2
        rw [hx]
        have hfar' := hfar.trans (hs.far (k := k))
        rcases hr with ⟨x, rfl, hr⟩ | ⟨rfl, hr⟩
        · exact hK _ _ ⟨ok, μ', _, (hst.step hs).put hr hd, by cases o.dst <;> exact hfar', by cases o.dst <;> exact hg, hk⟩
        · rw [hr] at hk
          exact hK _ _ ⟨ok, μ', _, (hst.step hs).put .any hd, by cases o.dst <;> exact hfar', by cases o.dst <;> exact hg, hk⟩
      split at h
      · rename_i f args hc
        obtain ⟨hent, hcall⟩ := h
        have plain : ∀ {ok : Nat → Prop} {s : S}, St n w ok μ s a → Far k w0 ok0 μ0 hp0 w ok μ s.hp → s.gl = G → ∀ {f : Nat} {args : List AV}, callOf s.eval o.op = some (f, args) → enters P f = true →
            ACall P s.gl f s.hp args (fun r hp' => K ({ s with hp := hp' }.put o.dst r)) → Oper.upon P o a K' Q ((execOp a.eval o).run P w) := by
          intro ok s hst hfar hg f args hc hent hcall
          obtain ⟨xs, hargs, hrun⟩ := call_run hst hc hent
          have hC := hcall w ok μ _ hst.hr hst.gl hargs
          rw [hrun]
          simp only [Oper.upon]
          refine hC.mono ?_
          rintro e w' ⟨x, r, hp', ok', μ', rfl, hs, hr, hk⟩
          exact hK _ _ ⟨ok', μ', _, (hst.step hs).put hr hd, by have := hfar.trans (hs.far (k := k)); cases o.dst <;> exact this, by cases o.dst <;> exact hg, hk⟩
        obtain ⟨okz, hstz, hsz⟩ := frz_st (l := arsOf s.eval (opsOf o.op)) hst
        unfold CallZ at hcall
        rw [h1, h2] at hcall
        rcases hcall with hcall | hcall | hcall
        · exact plain hst hfar hg hc hent hcall
        · unfold BorK at hcall
          split at hcall
          · rename_i f' args' hc'
            obtain ⟨hent', r, hid, hflat, hk, hcall'⟩ := hcall
            rw [h2] at hc'
            obtain ⟨xs, hargs, hrun⟩ := call_run hstz hc' hent'
            have hC := hcall' w okz [] xs (hr_nil fun b hb => (hstz.hr.keep hb).1) (fun g ν => (hst.gl g ν).mono (fun _ _ => rfl) hsz.oksub) (idAVs_rel hid hargs)
            rw [hrun]
            simp only [Oper.upon]
            refine hC.mono ?_
            rintro e w' ⟨x, r', hp', ok', μ', rfl, hs, hr, rfl, rfl⟩
            have hst' := borrow_step hst.hr hs
            exact hK _ _ ⟨ok, μ, _, ((hst.step hst').put (flatAV_rel hflat hr) hd), by have := hfar.trans (hst'.far (k := k)); cases o.dst <;> exact this, by cases o.dst <;> exact hg, h1 ▸ hk⟩
          · exact hcall.elim
        · unfold FrzK at hcall
          rw [h1, h2] at hcall
          split at hcall
          · rename_i f' args' hc'
            obtain ⟨hent', hcall'⟩ := hcall
            exact plain hstz (hfar.trans (hsz.far (k := k))) (frz_gl.trans hg) hc' hent' hcall'
          · exact hcall.elim
      · split at h
        · rename_i q va vb hpk
          unfold pickOf at hpk
          split at hpk
          · rename_i c x y heq
            split at hpk
            · rename_i q' hcq
              cases hpk
              have hc := hst.eval c
              rw [hcq] at hc
              have hc' := lit_rel hc
              have hrun : (execOp a.eval o).run P w = .ok (.value (if q then a.eval x else a.eval y)) w := by
                simp [execOp, heq, hc', asBool]
              rw [hrun]
              cases q with
              | true => exact hK _ _ ⟨ok, μ, _, hst.put (hst.eval x) hd, by cases o.dst <;> exact hfar, by cases o.dst <;> exact hg, h.1 rfl⟩
              | false => exact hK _ _ ⟨ok, μ, _, hst.put (hst.eval y) hd, by cases o.dst <;> exact hfar, by cases o.dst <;> exact hg, h.2 rfl⟩
            · cases hpk
          · cases hpk
        · split at h
          · rename_i neg rows hnt
            unfold nilTest at hnt
            split at hnt
            · rename_i op t x y yt heq
              have hy := hst.eval y
              have key : ∀ e, (tiOf P t).map TI.sh = some (.slice e) → s.eval y = .one .nil → rowsOf s.hp (s.eval x) = some rows → ∃ q : Bool, (q = true → rows = []) ∧ (Op.equal t (a.eval x) (a.eval y)).run P w = .ok q w ∧ (∀ b, (eqGuard b t x y (a.eval x) (a.eval y)).run P w = .ok () w) ∧ ∃ l c z, a.eval x = .slice z l c ∧ a.eval y = .slice none 0 0 := by
                intro e hs hye hrows
                rw [hye] at hy
                obtain ⟨i, hi, hi'⟩ := Option.map_eq_some_iff.1 hs
                have hu := (tiOf_spec hi).slice hi'
                have hyv : a.eval y = .slice none 0 0 := by
                  cases hyv : a.eval y with
                  | slice z l c => rw [hyv] at hy; cases hy with | one hc => cases hc; rfl
                  | _ => rw [hyv] at hy; cases hy with | one hc => cases hc
                have hgd : ∀ z l c, a.eval x = .slice z l c → ∀ b, (eqGuard b t x y (a.eval x) (a.eval y)).run P w = .ok () w := by
                  intro z l c hxv b
                  refine eqGuard_lit _ _ _ _ ?_ ?_
                  · rw [hxv]; intro _ _ h; cases h
                  · rw [hxv]; intro h; cases h
                rcases rowsOf_rel hst.hr hrows (hst.eval x) with ⟨hxv, hn⟩ | ⟨b, cap, hxv, _⟩
                · exact ⟨true, fun _ => hn, by rw [hxv, hyv]; exact run_equal_nil hu _ _ _, hgd _ _ _ hxv, _, _, _, hxv, hyv⟩
                · exact ⟨false, (fun h => by cases h), by rw [hxv, hyv]; exact run_equal_nil hu _ _ _, hgd _ _ _ hxv, _, _, _, hxv, hyv⟩
              split at hnt
              · rename_i hs hye hrows
                cases hnt
                obtain ⟨q, hq, hrun, hgd, l, c, z, hxv, hyv⟩ := key _ hs hye hrows
                have hr : (execOp a.eval o).run P w = .ok (.value (.bool q)) w := by
                  have hg' := hgd .eql
                  rw [hxv, hyv] at hrun hg'
                  simp only [execOp, heq, Sem.run_bind, hxv, hyv, hg', Result.andThen_ok, binOp, hrun, Sem.run_pure]
                rw [hr]
                have := h q hq
                exact hK _ _ ⟨ok, μ, _, hst.put (v := bl q) (avlit rfl) hd, by cases o.dst <;> exact hfar, by cases o.dst <;> exact hg, by simpa using this⟩
              · rename_i hs hye hrows
                cases hnt
                obtain ⟨q, hq, hrun, hgd, l, c, z, hxv, hyv⟩ := key _ hs hye hrows
                have hr : (execOp a.eval o).run P w = .ok (.value (.bool (!q))) w := by
                  have hg' := hgd .neq
                  rw [hxv, hyv] at hrun hg'
                  simp only [execOp, heq, Sem.run_bind, hxv, hyv, hg', Result.andThen_ok, binOp, hrun, Sem.run_pure]
                rw [hr]
                have := h q hq
                exact hK _ _ ⟨ok, μ, _, hst.put (v := bl (!q)) (avlit rfl) hd, by cases o.dst <;> exact hfar, by cases o.dst <;> exact hg, by simpa using this⟩
              · cases hnt
            · cases hnt
          · obtain ⟨okz, hstz, hsz⟩ := frz_st (l := arsOf s.eval (opsOf o.op)) hst
            have hfar := hfar.trans (hsz.far (k := k))
            have hg : (frz (arsOf s.eval (opsOf o.op)) s).gl = G := frz_gl.trans hg
            unfold aop1 at h
            rw [h1, h2] at h
            split at h
            · rename_i p v hp
              obtain ⟨hpp, hk⟩ := h
              obtain ⟨x, hx, hr⟩ := pureOp_sound (w := w) hstz.hr hstz.eval hp hpp
              rw [hx]
              exact hK _ _ ⟨okz, μ, _, hstz.put hr hd, by cases o.dst <;> exact hfar, by cases o.dst <;> exact hg, hk⟩
            · split at h
              · rename_i p v hp' hp
                obtain ⟨hpp, hk⟩ := h
                obtain ⟨nx, w', μ', hx, hs, hr⟩ := heapOp_sound (w := w) hstz.hr hstz.eval hp hpp
                rw [hx]
                have hfar' := hfar.trans (hs.far (k := k))
                rcases hr with ⟨x, rfl, hr⟩ | ⟨rfl, rfl⟩
                · exact hK _ _ ⟨okz, μ', _, (hstz.step hs).put hr hd, by cases o.dst <;> exact hfar', by cases o.dst <;> exact hg, hk⟩
                · exact hK _ _ ⟨okz, μ', _, (hstz.step hs).put .any hd, by cases o.dst <;> exact hfar', by cases o.dst <;> exact hg, hk⟩
              · exact h.elim
end
end Go.Proofs.AE
set_option linter.unusedVariables false
set_option linter.unusedSimpArgs false
namespace Go.Proofs.AE
open Go Go.RowKit
section
variable {P : Program} {G : Nat → AV} {k n : Nat} {w w0 : World} {ok ok0 : Nat → Prop} {μ μ0 : List MB} {hp0 : Hp} {s : S} {a : Act}
theorem yielded_slot {ops : Array Oper} {j t : Nat} (h : (ops[j]?).bind (·.dst) = some t) (tmps : Array Value) : yielded ops tmps j = match tmps[t]? with | some (.bool b) => some b | _ => none := by
  unfold yielded
  rw [h]; rfl
theorem compOp_spec {ops : Array Oper} {o : Oper} {ao : AOp} (h : compOp n ops o = some ao) :
    (ao.dst = o.dst ∧ ao.op = o.op) ∧ (∀ t, o.dst = some t → t < n) ∧
      ((o.guard = none ∧ ao.g = none) ∨ ∃ j b t, o.guard = some (j, b) ∧ ao.g = some (t, b) ∧ (ops[j]?).bind (·.dst) = some t ∧ t < n) := by
  unfold compOp at h
  by_cases hd : dstOk n o.dst = true
  · rw [if_pos hd] at h
    have hd' : ∀ t, o.dst = some t → t < n := by
      intro t ht
      rw [ht] at hd
      simpa [dstOk] using hd
    split at h
    · rename_i hg; cases h; exact ⟨⟨rfl, rfl⟩, hd', .inl ⟨hg, rfl⟩⟩
    · rename_i j b hg
      split at h
      · rename_i t ht
        split at h
        · rename_i hlt; cases h; exact ⟨⟨rfl, rfl⟩, hd', .inr ⟨j, b, t, hg, rfl, ht, hlt⟩⟩
        · cases h
      · cases h
  · rw [if_neg hd] at h; cases h
theorem wanted_of {ops : Array Oper} {o : Oper} (hst : St n w ok μ s a) {j t : Nat} {want : Bool} (hg : o.guard = some (j, want)) (hj : (ops[j]?).bind (·.dst) = some t) (ht : t < n) :
    (∀ b, getF s.fr t = .one (.v (.lit (.bool b))) → Region.wanted o (yielded ops a.tmps) = (b == want)) ∧ (getF s.fr t = .tup [] → Region.wanted o (yielded ops a.tmps) = false) := by
  have hx := hst.fr t
  have hlt : t < a.tmps.size := by rw [hst.size]; exact ht
  have hget : a.tmps[t]? = some (a.tmps.getD t undef) := by simp [Array.getD_eq_getD_getElem?, hlt]
  constructor
  · intro b hb
    rw [hb] at hx
    have hx' := lit_rel hx
    unfold Region.wanted
    rw [hg]
    simp only [yielded_slot hj, hget, hx']
    rfl
  · intro hb
    rw [hb] at hx
    generalize hv : a.tmps.getD t undef = v at hx hget
    cases hx with | tup hx =>
    unfold Region.wanted
    rw [hg]
    simp only [yielded_slot hj, hget]
    rfl
theorem aops_sound {ops : Array Oper} {Q : Exit → Act → World → Prop} : ∀ (l : List Oper) (al : List AOp) (s : S) (a : Act) (w : World) (ok : Nat → Prop) (μ : List MB) (K : S → Prop), compOps n ops l = some al → St n w ok μ s a →
    Far k w0 ok0 μ0 hp0 w ok μ s.hp → s.gl = G → aops P al s K → (∀ a w, Holds k n w0 ok0 μ0 hp0 G K a w → Q .normal a w) → wpList P ops Q l a w := by
  intro l
  induction l with
  | nil =>
    intro al s a w ok μ K hc hst hfar hg h hQ
    cases hc
    exact hQ a w ⟨ok, μ, s, hst, hfar, hg, h⟩
  | cons o l ih =>
    intro al s a w ok μ K hc hst hfar hg h hQ
    unfold compOps at hc
    split at hc
    · rename_i ao al' hao hal
      cases hc
      obtain ⟨h1, h2, h3⟩ := compOp_spec hao
      have step : ∀ s : S, St n w ok μ s a → Far k w0 ok0 μ0 hp0 w ok μ s.hp → s.gl = G → aop P ao s (fun s' => aops P al' s' K) → o.wp P a w (wpList P ops Q l) Q := fun s hst hfar hg h =>
        aop_sound h1 h2 hst hfar hg h (K' := wpList P ops Q l) (fun a' w' ⟨ok', μ', s', q1, q2, q3, q4⟩ => ih al' s' a' w' ok' μ' K hal q1 q2 q3 q4 hQ)
      have skip : ∀ s : S, St n w ok μ s a → Far k w0 ok0 μ0 hp0 w ok μ s.hp → s.gl = G → aops P al' (s.put ao.dst (.tup [])) K → wpList P ops Q l (a.put o.dst undef) w := fun s hst hfar hg h => by
        rw [h1.1] at h
        exact ih al' _ _ w ok μ K hal (hst.put (v := .tup []) (.tup .nil) h2) (by cases o.dst <;> exact hfar) (by cases o.dst <;> exact hg) h hQ
      unfold wpList
      rcases h3 with ⟨hgd, hag⟩ | ⟨j, want, t, hgd, hag, hj, hlt⟩
      · simp only [aops, hag] at h
        rw [if_pos (by simp [Region.wanted, hgd])]
        exact .inl (step s hst hfar hg h)
      · obtain ⟨w1, w2⟩ := wanted_of (o := o) hst hgd hj hlt
        simp only [aops, hag] at h
        split at h
        · rename_i b hb
          have hw := w1 b hb
          by_cases hbw : b = want
          · rw [if_pos (by rw [hw]; simp [hbw])]
            exact .inl (step _ (hst.reput (by rw [hb, hbw]; rfl)) hfar hg (h.1 hbw))
          · rw [if_neg (by rw [hw]; simp [hbw])]
            have hbn : b = !want := by cases b <;> cases want <;> simp_all
            exact skip _ (hst.reput (by rw [hb, hbn]; rfl)) hfar hg (h.2 hbn)
        · rename_i hb
          rw [if_neg (by rw [w2 hb]; simp)]
          exact skip s hst hfar hg h
        · exact h.elim
    · cases hc
end
end Go.Proofs.AE
set_option linter.unusedVariables false
set_option linter.unusedSimpArgs false
namespace Go.Proofs.AE
open Go Go.RowKit
def Out (k : Nat) (hp : Hp) (r0 : AV) (hp' : Hp) (r : AV) : Prop :=
  ∀ (w : World) (ok : Nat → Prop) (μ : List MB) (x : Value), HR w ok μ hp → AVRel w ok μ r0 x → ∃ ok' μ', Far k w ok μ hp w ok' μ' hp' ∧ AVRel w ok' μ' r x
section
variable {P : Program} {G : Nat → AV} {k n : Nat} {w w0 : World} {ok ok0 : Nat → Prop} {μ μ0 : List MB} {hp hp0 : Hp} {s : S} {a : Act}
theorem Weak.refl (k : Nat) (s : S) : Weak k s s :=
  ⟨rfl, fun _ _ ok μ _ h => ⟨ok, μ, h, (Step.refl h.hr).far⟩⟩
theorem Weak.trans {k : Nat} {s s' s'' : S} (h : Weak k s s') (h' : Weak k s' s'') : Weak k s s'' :=
  ⟨h'.1.trans h.1, fun n w ok μ a hst => by
    obtain ⟨ok1, μ1, h1, f1⟩ := h.2 n w ok μ a hst
    obtain ⟨ok2, μ2, h2, f2⟩ := h'.2 n w ok1 μ1 a h1
    exact ⟨ok2, μ2, h2, f1.trans f2⟩⟩
def coeC (hp : Hp) (F ρ : List Nat) : C → C → Prop
  | .any, _ => True
  | .v d, .v d' => d = d'
  | .v (.sl rows), .full rows' => rows = rows'
  | .v (.sl rows), .nil => rows = []
  | .v (.sl rows), .ar i => i ∈ F ∧ ∃ e k, hp[i]? = some (some (.arr e k rows))
  | .ptr i off, .ptr j off' => ρ[i]? = some j ∧ off = off'
  | .eptr i r k off, .eptr j r' k' off' => ρ[i]? = some j ∧ r = r' ∧ k = k' ∧ off = off'
  | .ar i, .ar j => ρ[i]? = some j
  | .sub i k off len c, .sub j k' off' len' c' => ρ[i]? = some j ∧ k = k' ∧ off = off' ∧ len = len' ∧ c = c'
  | .mp i, .mp j => ρ[i]? = some j
  | .vptr cs, .vptr cs' => cs = cs'
  | .full rows, .full rows' => rows = rows'
  | .nil, .nil => True
  | _, _ => False
def coeCs (hp : Hp) (F ρ : List Nat) : List C → List C → Prop
  | [], [] => True
  | c :: cs, d :: ds => coeC hp F ρ c d ∧ coeCs hp F ρ cs ds
  | _, _ => False
mutual
def coeAV (hp : Hp) (F ρ : List Nat) : AV → AV → Prop
  | .any, _ => True
  | .one c, .one d => coeC hp F ρ c d
  | .agg cs, .agg ds => coeCs hp F ρ cs ds
  | .fn f a b, .fn g c d => f = g ∧ coeCs hp F ρ a c ∧ coeCs hp F ρ b d
  | .tup l, .tup l' => coeAVs hp F ρ l l'
  | _, _ => False
def coeAVs (hp : Hp) (F ρ : List Nat) : List AV → List AV → Prop
  | [], [] => True
  | v :: l, u :: l' => coeAV hp F ρ v u ∧ coeAVs hp F ρ l l'
  | _, _ => False
end
def coeB (hp : Hp) (F ρ : List Nat) : Blk → Blk → Prop
  | .box t cs, .box t' ds => t = t' ∧ coeCs hp F ρ cs ds
  | .arr e k rows, .arr e' k' rows' => e = e' ∧ k = k' ∧ rows = rows'
  | .arj e k n rows, .arj e' k' n' rows' => e = e' ∧ k = k' ∧ n = n' ∧ rows = rows'
  | .mp t es, .mp t' es' => t = t' ∧ es = es'
  | _, _ => False
def coeF (hp : Hp) (F ρ : List Nat) (fr : List (Nat × AV)) : List (Nat × AV) → Prop
  | [] => True
  | (t, v) :: r => coeAV hp F ρ v (getF fr t) ∧ coeF hp F ρ fr r
def coeH (hp : Hp) (F ρ : List Nat) : Nat → Hp → Prop
  | _, [] => True
  | i, none :: r => coeH hp F ρ (i + 1) r
  | i, some b :: r => (∃ j b', ρ[i]? = some j ∧ hp[j]? = some (some b') ∧ coeB hp F ρ b b') ∧ coeH hp F ρ (i + 1) r
structure View (w : World) (ok : Nat → Prop) (μ : List MB) (hp : Hp) (F ρ : List Nat) (ok' : Nat → Prop) (μ' : List MB) : Prop where
  hr : HR w ok μ hp
  hμ : ∀ (i j : Nat) m, ρ[i]? = some j → μ[j]? = some m → μ'[i]? = some m
  oks : ∀ b, ok b → ok' b
  okF : ∀ (i : Nat) m b, i ∈ F → (∃ blk, hp[i]? = some (some blk)) → μ[i]? = some m → m.own = some b → ok' b
theorem coeC_rel {hp : Hp} {F ρ : List Nat} {ok' : Nat → Prop} {μ' : List MB} (hv : View w ok μ hp F ρ ok' μ') {c d : C} {x : Value} (h : coeC hp F ρ c d) (hd : CRel w ok μ d x) : CRel w ok' μ' c x := by
  unfold coeC at h
  split at h
  · exact .any hd.oneCell
  · subst h; cases hd with | v hd => exact .v (hd.mono (fun _ _ => rfl) hv.oks)
  · subst h; cases hd with | full hd => exact .v (hd.mono (fun _ _ => rfl) hv.oks)
  · subst h; cases hd with | nil => exact .v .nil
  · obtain ⟨hF, e, kk, hb⟩ := h
    cases hd with | ar hμ h1 =>
    obtain ⟨m, hm, hbr⟩ := hv.hr.rel _ _ hb
    rw [hμ] at hm; cases hm
    exact .v (vrel_of_arr hbr hv.oks fun b hb' => hv.okF _ _ b hF ⟨_, hb⟩ hμ hb')
  · obtain ⟨h1, rfl⟩ := h; cases hd with | ptr _ hd => exact .ptr _ (hv.hμ _ _ _ h1 hd)
  · obtain ⟨h1, rfl, rfl, rfl⟩ := h; cases hd with | eptr _ _ _ hd => exact .eptr _ _ _ (hv.hμ _ _ _ h1 hd)
  · cases hd with | ar hd h1 => exact .ar (hv.hμ _ _ _ h hd) h1
  · obtain ⟨h1, rfl, rfl, rfl, rfl⟩ := h; cases hd with | sub _ _ _ _ hd hs => exact .sub _ _ _ _ (hv.hμ _ _ _ h1 hd) hs
  · cases hd with | mp hd => exact .mp (hv.hμ _ _ _ h hd)
  · subst h; exact ((hd.mono (fun _ _ => rfl) hv.oks : CRel w ok' μ (.vptr _) x) |> fun h => by cases h with | vptr b off cv a b c => exact .vptr _ _ _ a b c)
  · subst h; cases hd with | full hd => exact .full (hd.mono (fun _ _ => rfl) hv.oks)
  · cases hd with | nil => exact .nil
  · exact h.elim
theorem coeCs_rel {hp : Hp} {F ρ : List Nat} {ok' : Nat → Prop} {μ' : List MB} (hv : View w ok μ hp F ρ ok' μ') : ∀ {cs ds : List C} {xs : List Value}, coeCs hp F ρ cs ds → All2 (CRel w ok μ) ds xs → All2 (CRel w ok' μ') cs xs
  | [], [], _, _, .nil => .nil
  | _ :: _, _ :: _, _, h, .cons hc hd => .cons (coeC_rel hv h.1 hc) (coeCs_rel hv h.2 hd)
  | [], _ :: _, _, h, _ => h.elim
  | _ :: _, [], _, h, _ => h.elim
mutual
theorem coeAV_rel {hp : Hp} {F ρ : List Nat} {ok' : Nat → Prop} {μ' : List MB} (hv : View w ok μ hp F ρ ok' μ') : ∀ {v u : AV} {x : Value}, coeAV hp F ρ v u → AVRel w ok μ u x → AVRel w ok' μ' v x
  | .any, _, _, _, _ => .any
  | .one _, .one _, _, h, .one hd => .one (coeC_rel hv h hd)
  | .agg _, .agg _, _, h, .agg hd => .agg (coeCs_rel hv h hd)
  | .fn _ _ _, .fn _ _ _, _, h, .fn a b => by obtain ⟨rfl, h1, h2⟩ := h; exact .fn (coeCs_rel hv h1 a) (coeCs_rel hv h2 b)
  | .tup _, .tup _, _, h, .tup hd => .tup (coeAVs_rel hv h hd)
  | .one _, .agg _, _, h, _ | .one _, .tup _, _, h, _ | .one _, .fn _ _ _, _, h, _ | .one _, .any, _, h, _ => h.elim
  | .agg _, .one _, _, h, _ | .agg _, .tup _, _, h, _ | .agg _, .fn _ _ _, _, h, _ | .agg _, .any, _, h, _ => h.elim
  | .tup _, .one _, _, h, _ | .tup _, .agg _, _, h, _ | .tup _, .fn _ _ _, _, h, _ | .tup _, .any, _, h, _ => h.elim
  | .fn _ _ _, .one _, _, h, _ | .fn _ _ _, .agg _, _, h, _ | .fn _ _ _, .tup _, _, h, _ | .fn _ _ _, .any, _, h, _ => h.elim
theorem coeAVs_rel {hp : Hp} {F ρ : List Nat} {ok' : Nat → Prop} {μ' : List MB} (hv : View w ok μ hp F ρ ok' μ') : ∀ {l l' : List AV} {xs : List Value}, coeAVs hp F ρ l l' → AVRels w ok μ l' xs → AVRels w ok' μ' l xs
  | [], [], _, _, .nil => .nil
  | _ :: _, _ :: _, _, h, .cons hc hd => .cons (coeAV_rel hv h.1 hc) (coeAVs_rel hv h.2 hd)
  | [], _ :: _, _, h, _ => h.elim
  | _ :: _, [], _, h, _ => h.elim
end
theorem coeB_rel {hp : Hp} {F ρ : List Nat} {ok' : Nat → Prop} {μ' : List MB} (hv : View w ok μ hp F ρ ok' μ') {b b' : Blk} {m : MB} (h : coeB hp F ρ b b') (hd : BRel w ok μ b' m) : BRel w ok' μ' b m := by
  unfold coeB at h
  split at h
  · obtain ⟨rfl, h1⟩ := h
    cases m with
    | box q => obtain ⟨xs, g1, g2⟩ := hd; exact ⟨xs, g1, coeCs_rel hv h1 g2⟩
    | arr => exact hd.elim
  · obtain ⟨rfl, rfl, rfl⟩ := h
    cases m with
    | box q => exact hd.elim
    | arr x => obtain ⟨xs, g1, g2, g3⟩ := hd; exact ⟨xs, g1, g2.mono fun _ _ h => h.mono (fun _ _ => rfl) hv.oks, g3⟩
  · obtain ⟨rfl, rfl, rfl, rfl⟩ := h
    exact BRel.mono (fun _ _ => rfl) hv.oks (fun _ _ h => h) hd (fun _ _ => rfl) |> fun h => by
      cases m with
      | box => exact h.elim
      | arr x => exact h
  · obtain ⟨rfl, rfl⟩ := h
    cases m with
    | box q => exact hd
    | arr x => exact hd.elim
  · exact h.elim
theorem coeF_get {hp : Hp} {F ρ : List Nat} {fr' : List (Nat × AV)} : ∀ {fr : List (Nat × AV)}, coeF hp F ρ fr' fr → ∀ t, coeAV hp F ρ (getF fr t) (getF fr' t)
  | [], _, t => by simp [getF, coeAV]
  | (u, v) :: r, h, t => by
    simp only [getF]
    by_cases hu : u = t
    · subst hu; rw [if_pos rfl]; exact h.1
    · rw [if_neg hu]; exact coeF_get h.2 t
theorem coeH_get {hp0 : Hp} {F ρ : List Nat} : ∀ {hp : Hp} {i : Nat}, coeH hp0 F ρ i hp → ∀ (q : Nat) b, hp[q]? = some (some b) → ∃ j b', ρ[i + q]? = some j ∧ hp0[j]? = some (some b') ∧ coeB hp0 F ρ b b'
  | [], _, _, q, b, h => by simp at h
  | none :: r, i, h, q, b, hq => by
    cases q with
    | zero => simp at hq
    | succ q =>
      have := coeH_get (i := i + 1) (hp := r) h q b (by simpa using hq)
      rwa [show i + 1 + q = i + (q + 1) by omega] at this
  | some c :: r, i, h, q, b, hq => by
    cases q with
    | zero => simp at hq; subst hq; exact h.1
    | succ q =>
      have := coeH_get (i := i + 1) (hp := r) h.2 q b (by simpa using hq)
      rwa [show i + 1 + q = i + (q + 1) by omega] at this
theorem getElem?_nodup {l : List Nat} (h : l.Nodup) {i j a : Nat} (hi : l[i]? = some a) (hj : l[j]? = some a) : i = j := by
  have h1 := lt_of_getElem? hi
  have h2 := lt_of_getElem? hj
  rw [List.getElem?_eq_getElem h1] at hi
  rw [List.getElem?_eq_getElem h2] at hj
  exact (List.getElem_inj h).1 (by rw [Option.some.inj hi, Option.some.inj hj])
theorem view_far {k : Nat} {hp hp' : Hp} {F ρ : List Nat} (hr : HR w ok μ hp) (hlen : ρ.length = hp'.length) (hnd : ρ.Nodup) (hFρ : ∀ i, i ∈ F → i ∉ ρ) (hk : ∀ i, i < k → i < hp.length → ρ[i]? = some i) (hh : coeH hp F ρ 0 hp') :
    ∃ ok' μ', View w ok μ hp F ρ ok' μ' ∧ Far k w ok μ hp w ok' μ' hp' := by
  have hμ : ∀ (i j : Nat) m, ρ[i]? = some j → μ[j]? = some m → (ρ.map fun j => μ.getD j (.box 0))[i]? = some m := by
    intro i j m h1 h2
    rw [List.getElem?_map, h1]
    simp [List.getD, h2]
  let okF : Nat → Prop := fun b => ∃ (i : Nat) (blk : Blk) (m : MB), i ∈ F ∧ hp[i]? = some (some blk) ∧ μ[i]? = some m ∧ m.own = some b
  have hinv : ∀ (i : Nat) b, hp'[i]? = some (some b) → ∃ j b', ρ[i]? = some j ∧ hp[j]? = some (some b') ∧ coeB hp F ρ b b' := by
    intro i b h; have := coeH_get hh i b h; rwa [Nat.zero_add] at this
  have hm : ∀ (i j : Nat) m, ρ[i]? = some j → (∃ b, hp[j]? = some (some b)) → (ρ.map fun j => μ.getD j (.box 0))[i]? = some m → μ[j]? = some m := by
    intro i j m h1 ⟨b, hb⟩ h2
    obtain ⟨q, hq, _⟩ := hr.rel j b hb
    rw [List.getElem?_map, h1] at h2
    simp [List.getD, hq] at h2
    rw [hq, h2]
  have hown : ∀ b, OwnL hp' (ρ.map fun j => μ.getD j (.box 0)) b → ∃ (j : Nat) (blk : Blk) (m : MB), j ∈ ρ ∧ hp[j]? = some (some blk) ∧ μ[j]? = some m ∧ m.own = some b := by
    rintro b ⟨i, blk, m, h1, h2, h3⟩
    obtain ⟨j, b', g1, g2, g3⟩ := hinv i blk h1
    exact ⟨j, b', m, List.mem_of_getElem? g1, g2, hm i j m g1 ⟨b', g2⟩ h2, h3⟩
  have hownL : ∀ b, OwnL hp' (ρ.map fun j => μ.getD j (.box 0)) b → OwnL hp μ b := fun b h => let ⟨j, blk, m, _, h2, h3, h4⟩ := hown b h; ⟨j, blk, m, h2, h3, h4⟩
  have hv : View w ok μ hp F ρ (fun b => ok b ∨ okF b) (ρ.map fun j => μ.getD j (.box 0)) := ⟨hr, hμ, fun b h => .inl h, fun i m b h1 ⟨blk, h2⟩ h3 h4 => .inr ⟨i, blk, m, h1, h2, h3, h4⟩⟩
  refine ⟨_, _, hv, ⟨⟨by simp [hlen], ?_, ?_, ?_⟩, rfl, rfl, rfl, Nat.le_refl _, fun _ _ _ => rfl, fun _ h => .inl h, ?_, fun b h => .inr (hownL b h), ?_⟩⟩
  · intro i b hb
    obtain ⟨j, b', g1, g2, g3⟩ := hinv i b hb
    obtain ⟨m, q1, q2⟩ := hr.rel j b' g2
    exact ⟨m, hμ i j m g1 q1, coeB_rel hv g3 q2⟩
  · intro i j b c m q kk hij hb hc hm1 hm2 ho
    obtain ⟨i', b', g1, g2, _⟩ := hinv i b hb
    obtain ⟨j', c', e1, e2, _⟩ := hinv j c hc
    have hne : i' ≠ j' := fun e => hij (getElem?_nodup hnd g1 (e ▸ e1))
    exact hr.inj i' j' b' c' m q kk hne g2 e2 (hm i i' m g1 ⟨b', g2⟩ hm1) (hm j j' q e1 ⟨c', e2⟩ hm2) ho
  · rintro kk (hkk | ⟨i, blk, m, h1, h2, h3, h4⟩)
    · refine ⟨(hr.keep hkk).1, fun i b m h1 h2 h3 => (hr.keep hkk).2 (hownL kk ⟨i, b, m, h1, h2, h3⟩)⟩
    · refine ⟨hr.own_lt ⟨i, blk, m, h2, h3, h4⟩, fun i' b' m' g1 g2 g3 => ?_⟩
      obtain ⟨j, c, q, e0, e1, e2, e3⟩ := hown kk ⟨i', b', m', g1, g2, g3⟩
      exact hr.inj i j blk c m q kk (fun e => hFρ i h1 (e ▸ e0)) h2 e1 h3 e2 h4 e3
  · rintro b (h | ⟨i, blk, m, h1, h2, h3, h4⟩)
    · exact .inl h
    · exact .inr (.inr ⟨i, blk, m, h2, h3, h4⟩)
  · intro i m hi hm1
    exact hμ i i m (hk i hi (by rw [← hr.len]; exact lt_of_getElem? hm1)) hm1
theorem weak_of {k : Nat} {s s' : S} (F ρ : List Nat) (hgl : s'.gl = s.gl) (hlen : ρ.length = s'.hp.length) (hnd : ρ.Nodup) (hFρ : ∀ i, i ∈ F → i ∉ ρ) (hk : ∀ i, i < k → i < s.hp.length → ρ[i]? = some i)
    (hf : coeF s.hp F ρ s.fr s'.fr) (hh : coeH s.hp F ρ 0 s'.hp) : Weak k s s' := by
  refine ⟨hgl, fun n w ok μ a hst => ?_⟩
  obtain ⟨ok', μ', hv, hfar⟩ := view_far hst.hr hlen hnd hFρ hk hh
  exact ⟨ok', μ', ⟨hfar.hr, hst.size, hst.defers, fun t => coeAV_rel hv (coeF_get hf t) (hst.fr t), fun g ν => by rw [hgl]; exact (hst.gl g ν).mono (fun _ _ => rfl) hv.oks⟩, hfar⟩
theorem out_of {k : Nat} {hp hp' : Hp} {r0 r : AV} (F ρ : List Nat) (hlen : ρ.length = hp'.length) (hnd : ρ.Nodup) (hFρ : ∀ i, i ∈ F → i ∉ ρ) (hk : ∀ i, i < k → i < hp.length → ρ[i]? = some i)
    (hf : coeAV hp F ρ r r0) (hh : coeH hp F ρ 0 hp') : Out k hp r0 hp' r := by
  intro w ok μ x hr hx
  obtain ⟨ok', μ', hv, hfar⟩ := view_far hr hlen hnd hFρ hk hh
  exact ⟨ok', μ', hfar, coeAV_rel hv hf hx⟩
theorem weak_nil {k : Nat} {s : S} (t e m : Nat) (h : getF s.fr t = .one .nil) (hm : 0 < m) : Weak k s { s with fr := (t, .one (.ar s.hp.length)) :: s.fr, hp := s.hp ++ [some (.arr e m [])] } := by
  refine ⟨rfl, fun n w ok μ a hst => ?_⟩
  have hv : a.tmps.getD t undef = .slice none 0 0 := by
    have := hst.fr t
    rw [h] at this
    generalize a.tmps.getD t undef = x at this
    cases this with | one hc => cases hc; rfl
  obtain ⟨s1, s2⟩ := arr_sound (w' := w) (e := e) (k := m) (rows := []) (xs := []) (x := .slice none 0 0) hst.hr rfl rfl rfl (Nat.le_refl _) (fun _ _ => rfl) (World.ownsRow_nil w 0 e m) .nil (fun _ h => by simp at h) (fun b hb => by cases hb)
  refine ⟨ok, _, ⟨s1.hr, hst.size, hst.defers, fun u => ?_, fun g ν => hst.gl g ν⟩, s1.far⟩
  simp only [getF]
  by_cases hu : t = u
  · subst hu; rw [if_pos rfl, hv]; exact s2
  · rw [if_neg hu]; exact s1.av hst.hr (hst.fr u)
end
end Go.Proofs.AE
