/- The abstract evaluator, part 10: the operations that make or write memory. -/
import Derived.Test.YtniihihcklpdgaaAeHeap
set_option linter.unusedVariables false
set_option linter.unusedSimpArgs false
namespace Go.Proofs.AE
open Go Go.RowKit

def vsOf : List C → Option (List V)
  | [] => some []
  | .v d :: r => (vsOf r).map (d :: ·)
  | .full rows :: r => (vsOf r).map (.sl rows :: ·)
  | .nil :: r => (vsOf r).map (.sl [] :: ·)
  | _ => none

def boxCells : AV → Option (List C)
  | .one c => some [c]
  | .agg cs => some cs
  | .fn _ _ _ => some [.any]
  | _ => none

/-- The rows of a slice literal: its parts in their order, each of k cells. -/
def partRows (k : Nat) : Nat → List (Nat × AV) → Option (List (List V))
  | _, [] => some []
  | i, (j, v) :: r =>
    if j = i then
      match cellsAV v with
      | some cs => if cs.length = k then match vsOf cs, partRows k (i + 1) r with | some a, some b => some (a :: b) | _, _ => none else none
      | none => none
    else none

def strRows (s : ByteArray) : List (List V) := s.data.toList.map fun b => [.lit (.int .u8 b.toNat)]

/-- What append reads behind its first operand. -/
def srcRows (hp : Hp) (u : Option Sh) (v : AV) : Option (List (List V)) :=
  match u with
  | some (.slice _) => rowsOf hp v
  | some .string => match v with | .one (.v (.lit (.string s))) => some (strRows s) | _ => none
  | _ => none

def isStrSh : Option Sh → Bool | some .string => true | _ => false

/-- Bytes. -/
def isU8 (P : Program) (e : TypeId) : Bool := match (P.info? e).bind (·.zero) with | some (.int .u8 0) => true | _ => false

def heapOp (P : Program) (hp : Hp) (ev : Operand → AV) : Op → Option (Prop × AV × Hp)
  | .alloc t => match tiOf P t with
    | some i => some (True, .one (.ptr hp.length 0), hp ++ [some (.box t (i.zero.map vC))])
    | none => none
  | .box t x => (boxCells (ev x)).map fun cs => (True, .one (.ptr hp.length 0), hp ++ [some (.box t cs)])
  | .store t a x => match tiOf P t, boxCells (ev x) with
    | some i, some xs => if xs.length = i.size then
        match ev a with
        | .one (.ptr b off) => match hp[b]? with
          | some (some (.box u cs)) => if off + i.size ≤ cs.length then some (True, .any, hp.set b (some (.box u (cs.take off ++ xs ++ cs.drop (off + i.size))))) else none
          | _ => none
        | .one (.eptr b r k off) => match hp[b]? with
          | some (some (.arr e k' rows)) => match rows[r]?, vsOf xs with
            | some row, some vs => if k' = k ∧ off + i.size ≤ k then some (True, .any, hp.set b (some (.arr e k' (rows.set r (row.take off ++ vs ++ row.drop (off + i.size)))))) else none
            | _, _ => none
          | _ => none
        | _ => none
      else none
    | _, _ => none
  | .buildSlice t len parts => match (tiOf P t).map TI.sh with
    | some (.slice e) => match tiOf P e with
      | some j => if j.size ≠ 0 ∧ len * j.size ≤ 2 ^ 24 ∧ parts.size = len then
          (partRows j.size 0 (parts.toList.map fun (k, x) => (k, ev x))).map fun rows => (True, .one (.ar hp.length), hp ++ [some (.arr e j.size rows)])
        else none
      | none => none
    | _ => none
  | .makeSlice t l c => match (tiOf P t).map TI.sh, intOfAV (ev l), intOfAV (ev c) with
    | some (.slice e), some n, some m => match tiOf P e with
      | some j => if j.size ≠ 0 then some (n = m ∧ 0 ≤ n ∧ (j.bytes : Int) * n ≤ 281474976710656 ∧ n ≤ 9223372036854775807, .one (.ar hp.length), hp ++ [some (.arr e j.size (List.replicate n.toNat j.zero))]) else none
      | none => none
    | _, _, _ => none
  | .call { callee := .builtin .append, args := args, argTypes := ts } => match args.toList, ts.toList with
    | [s, x], [t, u] => match (tiOf P t).map TI.sh with
      | some (.slice e) => match tiOf P e, srcRows hp ((tiOf P u).map TI.sh) (ev x) with
        | some j, some new => if (j.size != 0 && (if isStrSh ((tiOf P u).map TI.sh) then j.size == 1 && j.bytes == 1 && isU8 P e else t == u)) = true then
            match ev s with
            | .one (.ar b) => match hp[b]? with
              | some (some (.arr e' k rows)) => if e' = e ∧ k = j.size then some (UL j.size new ∧ rows.length + new.length ≤ 9223372036854775807 ∧ (rows.length + new.length) * j.bytes ≤ 140737488355328, .one (.ar hp.length), hp.set b none ++ [some (.arr e k (rows ++ new))]) else none
              | _ => none
            | .one .nil => some (UL j.size new ∧ new.length ≤ 9223372036854775807 ∧ new.length * j.bytes ≤ 140737488355328, .one (.ar hp.length), hp ++ [some (.arr e j.size new)])
            | .one (.full rows) => if isStrSh ((tiOf P u).map TI.sh) then none else
              some (UL j.size new ∧ UL j.size rows ∧ 0 < new.length ∧ rows.length + new.length ≤ 9223372036854775807 ∧ (rows.length + new.length) * j.bytes ≤ 140737488355328, .one (.ar hp.length), hp ++ [some (.arr e j.size (rows ++ new))])
            | _ => none
          else none
        | _, _ => none
      | _ => none
    | _, _ => none
  | _ => none

section
variable {P : Program} {n : Nat} {w w' : World} {ok ok' : Nat → Prop} {μ μ' : List MB} {hp hp' : Hp}

theorem vsOf_rel : ∀ {cs : List C} {vs : List V} {xs : List Value}, vsOf cs = some vs → All2 (CRel w ok μ) cs xs → All2 (VRel w ok) vs xs
  | [], vs, xs, h, ha => by cases h; cases ha; exact .nil
  | c :: cs, vs, xs, h, ha => by
    cases ha with | cons hc ha =>
    cases c <;> simp only [vsOf] at h <;> first | (cases h; done) | skip
    · obtain ⟨vs', h', rfl⟩ := Option.map_eq_some_iff.1 h
      cases hc with | v hc => exact .cons hc (vsOf_rel h' ha)
    · obtain ⟨vs', h', rfl⟩ := Option.map_eq_some_iff.1 h
      cases hc with | full hc => exact .cons hc (vsOf_rel h' ha)
    · obtain ⟨vs', h', rfl⟩ := Option.map_eq_some_iff.1 h
      cases hc with | nil => exact .cons .nil (vsOf_rel h' ha)

theorem boxCells_rel {v : AV} {cs : List C} {x : Value} (h : boxCells v = some cs) (hv : AVRel w ok μ v x) : All2 (CRel w ok μ) cs x.cells.toList := by
  unfold boxCells at h
  split at h
  · cases h; exact cellsAV_rel (v := .one _) rfl hv
  · cases h; exact cellsAV_rel (v := .agg _) rfl hv
  · cases h
    cases hv with | fn _ _ => exact .cons (.any rfl) .nil
  · cases h

theorem one_all {cs : List C} {xs : List Value} (h : All2 (CRel w ok μ) cs xs) : ∀ x ∈ xs, x.oneCell' = true := by
  intro x hx
  obtain ⟨c, _, hr⟩ := h.mem hx
  exact hr.oneCell

theorem one_allV {cs : List V} {xs : List Value} (h : All2 (VRel w ok) cs xs) : ∀ x ∈ xs, x.oneCell' = true := by
  intro x hx
  obtain ⟨c, _, hr⟩ := h.mem hx
  exact hr.oneCell

/-- A new variable. -/
theorem box_sound {t : TypeId} {cs : List C} {xs : Array Value} (hr : HR w ok μ hp) (h : All2 (CRel w ok μ) cs xs.toList) :
    Step w ok μ hp (w.alloc (.cells xs t)) ok (μ ++ [.box w.heap.size]) (hp ++ [some (.box t cs)]) ∧
      AVRel (w.alloc (.cells xs t)) ok (μ ++ [.box w.heap.size]) (.one (.ptr hp.length 0)) (.pointer (some ⟨w.heap.size, 0, none⟩)) := by
  have hframe : ∀ b, b < w.heap.size → (w.alloc (.cells xs t)).heap[b]? = w.heap[b]? := fun b hb => Below.heap_alloc w _ b hb
  have hkeep : ∀ b, ok b → (w.alloc (.cells xs t)).heap[b]? = w.heap[b]? := fun b hb => hframe b (hr.keep hb).1
  have hext : ∀ (i : Nat) q, μ[i]? = some q → (μ ++ [MB.box w.heap.size])[i]? = some q := fun i q h => by rw [List.getElem?_append_left (lt_of_getElem? h)]; exact h
  refine ⟨step_new hr rfl rfl rfl (by simp) hframe ⟨xs, heap_alloc_new w _, h.mono fun _ _ h => (h.mono hkeep fun _ h => h).ext hext⟩ ?_, .one (.ptr 0 ?_)⟩
  · intro b hb; cases hb; exact Nat.le_refl _
  · rw [← hr.len]; simp

/-- A new array. -/
theorem arr_sound {e : TypeId} {k : Nat} {rows : List (List V)} {xs : List Value} {x : Value} (hr : HR w ok μ hp)
    (hos : w'.os = w.os) (htape : w'.tape = w.tape) (hout : w'.output = w.output) (hsize : w.heap.size ≤ w'.heap.size)
    (hframe : ∀ b, b < w.heap.size → w'.heap[b]? = w.heap[b]?)
    (hown : w'.ownsRow 0 e k x rows.length xs) (hall : All2 (VRel w ok) rows.flatten xs) (hul : UL k rows) (hfresh : ∀ b, x.ownBlock = some b → w.heap.size ≤ b) :
    Step w ok μ hp w' ok (μ ++ [.arr x]) (hp ++ [some (.arr e k rows)]) ∧ AVRel w' ok (μ ++ [.arr x]) (.one (.ar hp.length)) x := by
  have hkeep : ∀ b, ok b → w'.heap[b]? = w.heap[b]? := fun b hb => hframe b (hr.keep hb).1
  have h1 : x.oneCell' = true := by rcases hown.2 with ⟨rfl, _⟩ | ⟨g, cap, cur, rfl, _⟩ <;> rfl
  refine ⟨step_new hr hos htape hout hsize hframe ⟨xs, hown, hall.mono fun _ _ h => h.mono hkeep fun _ h => h, hul⟩ hfresh, .one (.ar ?_ h1)⟩
  rw [← hr.len]; simp

theorem flat_rows {k : Nat} {rows : List (List V)} (h : UL k rows) : rows.flatten.length = rows.length * k := by
  induction rows with
  | nil => simp
  | cons r rows ih =>
    simp only [List.flatten_cons, List.length_append, List.length_cons, ih fun x hx => h x (List.mem_cons_of_mem _ hx), h r (List.mem_cons_self ..)]
    rw [Nat.add_mul]; omega

theorem store_run {t : TypeId} {i : TI} (hi : TIs P t i) {x : Value} {xs : List C} (hx : All2 (CRel w ok μ) xs x.cells.toList) (hl : xs.length = i.size) {g off : Nat} {cur : Array Value} {T : TypeId}
    (hg : w.heap[g]? = some (.cells cur T (0, 0))) (hfit : off + i.size ≤ cur.size) :
    (Instr.storeAt t (.pointer (some ⟨g, off, none⟩)) x).run P w = .ok () (w.setRow g (cur.toList.take off ++ x.cells.toList ++ cur.toList.drop (off + i.size)).toArray) := by
  have hlen : x.cells.toList.length = i.size := by rw [← hx.length, hl]
  have hst := run_storeCells_at P g off T x.cells.toList 0 cur w hg (by rw [hlen]; simpa using hfit) (one_all hx)
  simp only [Nat.add_zero, hlen] at hst
  have hsz : x.cells.size = i.size := by simpa using hlen
  simp only [Instr.storeAt, Instr.sureAddr, Sem.run_bind, Sem.run_pure, Result.andThen_ok, storeVar, run_sizeOf hi, hsz]
  simp [hst]

theorem partRows_build {i : TI} {k : Nat} {pl : Nat → Option (Nat × Nat)} (hpl : ∀ f, pl f = some (f * k, k)) : ∀ (parts : List (Nat × AV)) (q : Nat) (rows : List (List V)) (cs : List C), partRows k q parts = some rows →
    (q + parts.length) * k = cs.length → ∃ fl, vsOf fl = some rows.flatten ∧ buildAV i pl cs parts = some (cs.take (q * k) ++ fl) ∧ UL k rows ∧ rows.length = parts.length
  | [], q, rows, cs, h, hl => by
    cases h
    refine ⟨[], rfl, ?_, (fun r hr => by simp at hr), rfl⟩
    simp only [buildAV, List.append_nil, Option.some.injEq]
    rw [List.take_of_length_le (by simp at hl; omega)]
  | (j, v) :: parts, q, rows, cs, h, hl => by
    unfold partRows at h
    split at h
    · rename_i hj; subst hj
      split at h
      · rename_i ys hys
        split at h
        · rename_i hk
          split at h
          · rename_i a b ha hb
            cases h
            have hle : (j + 1) * k ≤ cs.length := by rw [← hl]; exact Nat.mul_le_mul_right _ (by simp)
            have e1 : (j + 1) * k = j * k + k := by rw [Nat.add_mul]; omega
            have hl' : (j + 1 + parts.length) * k = (cs.take (j * k) ++ ys ++ cs.drop (j * k + k)).length := by
              simp only [List.length_append, List.length_take, List.length_drop, hk]
              simp only [List.length_cons] at hl
              rw [show j + 1 + parts.length = j + (parts.length + 1) by omega, hl]; omega
            obtain ⟨fl, h1, h2, h3, h4⟩ := partRows_build hpl parts (j + 1) b _ hb hl'
            have hva : ∀ (l1 l2 : List C) (x y : List V), vsOf l1 = some x → vsOf l2 = some y → vsOf (l1 ++ l2) = some (x ++ y) := by
              intro l1
              induction l1 with
              | nil => intro l2 x y hx hy; cases hx; exact hy
              | cons c l1 ih =>
                intro l2 x y hx hy
                cases c <;> simp only [vsOf] at hx <;> first | (cases hx; done) | skip
                all_goals
                  obtain ⟨x', hx', rfl⟩ := Option.map_eq_some_iff.1 hx
                  simp [vsOf, ih l2 x' y hx' hy]
            refine ⟨ys ++ fl, by simpa using hva ys fl a _ ha h1, ?_, ?_, by simp [h4]⟩
            · simp only [buildAV, hpl, hys]
              rw [if_pos ⟨hk, by omega⟩, h2]
              congr 1
              rw [List.take_left' (by simp only [List.length_append, List.length_take, hk]; rw [e1, Nat.min_eq_left (by omega)]), List.append_assoc]
            · intro r hr
              rcases List.mem_cons.1 hr with rfl | hr
              · have := hk; 
                have hvl : ∀ (l : List C) (x : List V), vsOf l = some x → x.length = l.length := by
                  intro l
                  induction l with
                  | nil => intro x hx; cases hx; rfl
                  | cons c l ih =>
                    intro x hx
                    cases c <;> simp only [vsOf] at hx <;> first | (cases hx; done) | skip
                    all_goals
                      obtain ⟨x', hx', rfl⟩ := Option.map_eq_some_iff.1 hx
                      simp [ih x' hx']
                rw [hvl ys _ ha, hk]
              · exact h3 r hr
          · cases h
        · cases h
      · cases h
    · cases h

end
end Go.Proofs.AE
