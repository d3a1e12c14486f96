/- The abstract evaluator, part 12: code as the evaluator has it: what is forgotten of the translation's code, and what is checked of it. -/
import Derived.Test.YtniihihcklpdgaaAeArj2
import Derived.Orders
set_option linter.unusedVariables false
set_option linter.unusedSimpArgs false
namespace Go.Proofs.AE
open Go Go.RowKit

/-! ### the code -/
structure AOp where
  dst : Option Nat
  op : Op
  g : Option (Nat × Bool)

def dstOk (n : Nat) : Option Nat → Bool
  | none => true
  | some t => decide (t < n)

def compOp (n : Nat) (ops : Array Oper) (o : Oper) : Option AOp :=
  if dstOk n o.dst = true then
    match o.guard with
    | none => some ⟨o.dst, o.op, none⟩
    | some (j, b) => match (ops[j]?).bind (·.dst) with
      | some t => if t < n then some ⟨o.dst, o.op, some (t, b)⟩ else none
      | none => none
  else none

def compOps (n : Nat) (ops : Array Oper) : List Oper → Option (List AOp)
  | [] => some []
  | o :: os => match compOp n ops o, compOps n ops os with
    | some a, some l => some (a :: l)
    | _, _ => none

/-! ### regions whose order Go leaves open -/
def edgesOf (o : Oper) : List Nat := (o.after.toList.filter fun e => Region.binds .any e).map (·.on)

def ancStep (acc : List Nat) (o : Oper) : Nat := (edgesOf o).foldl (fun s j => s ||| 2 ^ j ||| acc.getD j 0) 0

def ancs : List Oper → List Nat → List Nat
  | [], acc => acc
  | o :: os, acc => ancs os (acc ++ [ancStep acc o])

def ancT (ops : Array Oper) : List Nat := ancs ops.toList []

def ancB (A : List Nat) (i j : Nat) : Bool := (A.getD i 0).testBit j

/-- All edges lead back. -/
def acyc (ops : Array Oper) : Bool := ops.toList.zipIdx.all fun (o, i) => (edgesOf o).all (· < i)

def isEff : Op → Bool
  | .move _ | .assign _ | .pick .. | .load .. | .binOp .. | .unOp .. | .convert .. | .slice .. | .fieldAddr .. | .field .. | .indexAddr .. | .index .. | .extract .. | .nilCheck _ | .makeFunc .. | .build .. => false
  | .call { callee := .builtin .len, .. } | .call { callee := .builtin .min, .. } | .call { callee := .builtin .max, .. } => false
  | _ => true

def isReader : Op → Bool
  | .load .. | .convert .. | .indexAddr .. | .call _ => true
  | _ => false

/-- The slots that an operation names. -/
def namesOf (o : AOp) : List Nat := o.dst.toList ++ (o.op.operands.toList.filterMap fun | .tmp t => some t | _ => none) ++ (match o.g with | some (t, _) => [t] | none => [])

/-- All orders of the effects that Go allows. -/
def exts (A : List Nat) : Nat → List Nat → List (List Nat)
  | 0, _ => [[]]
  | f + 1, rest => rest.flatMap fun c => if rest.all (fun r => r == c || !ancB A c r) then (exts A f (rest.erase c)).map (c :: ·) else []

/-- An order with these effects in this order: each operation as soon as it may be. -/
def canon (ops : Array Oper) (eff : Nat → Bool) : Nat → List Nat → List Nat → List Nat → List Nat
  | 0, _, _, _ => []
  | f + 1, done, left, es =>
    match left.find? (fun i => ((ops[i]?).map fun o => (edgesOf o).all done.contains).getD false && (!eff i || es.head? == some i)) with
    | some i => i :: canon ops eff f (i :: done) (left.erase i) (if eff i then es.tail else es)
    | none => []

def effI (ops : Array Oper) (i : Nat) : Bool := match ops[i]? with | some o => isEff o.op | none => false

def compIdx (n : Nat) (ops : Array Oper) : List Nat → Option (List AOp)
  | [] => some []
  | i :: r => match ops[i]? with
    | some o => match compOp n ops o, compIdx n ops r with
      | some a, some l => some (a :: l)
      | _, _ => none
    | none => none

def namesOk (A : List Nat) (ord : List Nat) (al : List AOp) : Bool :=
  (ord.zip al).zipIdx.all fun ((i, a), k) => (ord.zip al).zipIdx.all fun ((j, b), l) =>
    k == l || (match b.dst with
      | some t => !(namesOf a).contains t || ((!decide (l < k) || ancB A i j) && (!decide (k < l) || ancB A j i))
      | none => true)

/-- Which reads and which effects are not ordered. -/
def pairsOf (A : List Nat) (ord : List Nat) (al : List AOp) : List (Nat × Nat) :=
  (ord.zip al).zipIdx.flatMap fun ((i, a), k) => if isReader a.op && !isEff a.op then
    (ord.zip al).zipIdx.filterMap fun ((j, b), l) => if isEff b.op && (!decide (k < l) || !ancB A j i) && (!decide (l < k) || !ancB A i j) then some (k, l) else none
  else []

def altOf (n : Nat) (ops : Array Oper) (A : List Nat) (e : List Nat) : Option (List AOp × List (Nat × Nat)) :=
  let ord := canon ops (effI ops) ops.size [] (List.range ops.size) e
  if decide ord.Nodup && (List.range ops.size).all ord.contains && (ord.filter (effI ops) == e) then
    match compIdx n ops ord with
    | some al => if namesOk A ord al then some (al, pairsOf A ord al) else none
    | none => none
  else none

def altsOf (n : Nat) (ops : Array Oper) (A : List Nat) : List (List Nat) → Option (List (List AOp × List (Nat × Nat)))
  | [] => some []
  | e :: r => match altOf n ops A e, altsOf n ops A r with | some a, some l => some (a :: l) | _, _ => none

def compDraw (n : Nat) (ops : Array Oper) : Option (List (List AOp × List (Nat × Nat))) :=
  if acyc ops then
    let A := ancT ops
    let E := (List.range ops.size).filter (effI ops)
    altsOf n ops A (exts A E.length E)
  else none

inductive ACode where
  | skip
  | reg (ops : List AOp)
  | regD (alts : List (List AOp × List (Nat × Nat)))
  | seq (a b : ACode)
  | cond (c : Operand) (t e : ACode)
  | block (id : Nat) (c : ACode)
  | loop (c : ACode)
  | exit (id : Nat)
  | ret

def comp (n : Nat) : Code → Option ACode
  | .skip => some .skip
  | .region _ ops false => (compOps n ops ops.toList).map .reg
  | .region _ ops true => (compDraw n ops).map .regD
  | .seq a b => match comp n a, comp n b with | some x, some y => some (.seq x y) | _, _ => none
  | .cond c t e => match comp n t, comp n e with | some x, some y => some (.cond c x y) | _, _ => none
  | .block id c => (comp n c).map (.block id)
  | .loop c => (comp n c).map .loop
  | .exit id => some (.exit id)
  | .ret => some .ret
  | _ => none

end Go.Proofs.AE
