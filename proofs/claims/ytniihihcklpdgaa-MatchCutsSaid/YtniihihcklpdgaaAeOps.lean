/- The abstract evaluator, part 2: types by what the evaluator needs of them, the state, the operations that change no memory. -/
import Derived.Test.YtniihihcklpdgaaAeBase
set_option linter.unusedVariables false
set_option linter.unusedSimpArgs false
namespace Go.Proofs.AE
open Go Go.RowKit

/-! ### types -/
inductive Sh where
  | bool | int (k : IntKind) | string | slice (e : Nat) | struct (fs : List (Nat × Nat)) | array (n e : Nat) | pointer (e : Nat) | iface | other

structure TI where
  sh : Sh
  size : Nat
  bytes : Nat
  zero : List V
  flat : List Sh

def TI.isAgg (i : TI) : Bool := match i.sh with | .struct _ | .array _ _ => true | _ => false

def shOf (P : Program) : TypeDesc → Option Sh
  | .bool => some .bool
  | .int k => some (.int k)
  | .string => some .string
  | .slice e => some (.slice e)
  | .struct fs => if fs.toList.all (fun f => match P.info? f.type with | some i => i.size != 0 | none => false) then some (.struct (fs.toList.map fun f => (f.type, f.offset))) else none
  | .array n e => some (.array n e)
  | .pointer e => some (.pointer e)
  | .interface _ => some .iface
  | _ => some .other

def zV : Value → Option V
  | .slice none 0 0 => some (.sl [])
  | .int k n => some (.lit (.int k n))
  | .bool b => some (.lit (.bool b))
  | .string s => some (.lit (.string s))
  | .pointer none => some (.lit (.pointer none))
  | .nilIface => some (.lit .nilIface)
  | .nilFunc => some (.lit .nilFunc)
  | _ => none

def zVs : List Value → Option (List V)
  | [] => some []
  | x :: r => match zV x, zVs r with | some a, some b => some (a :: b) | _, _ => none

/-- The scalars of a struct, in their order, if '==' compares one by one. -/
def flatFs (rec : TypeId → Option (List Sh)) (sz : TypeId → Option Nat) : List Field → List Sh → Option (List Sh)
  | [], acc => some acc
  | f :: fs, acc =>
    if f.name ≠ "_" ∧ f.offset = acc.length then
      match rec f.type with
      | some l => if sz f.type = some l.length then flatFs rec sz fs (acc ++ l) else none
      | none => none
    else none

def flatB (P : Program) : (d : Nat) → TypeId → Option (List Sh)
  | 0, _ => none
  | d + 1, t => match P.underlying t with
    | some .bool => some [.bool]
    | some (.int k) => some [.int k]
    | some .string => some [.string]
    | some (.struct fs) => if P.stoodInHeld t then none else flatFs (flatB P d) (fun u => (P.info? u).map (·.size)) fs.toList []
    | _ => none

def flatOf (P : Program) (t : TypeId) : List Sh := if P.eqGuardType P.depth t then [] else match P.underlying t with | some (.struct _) => (flatB P 12 t).getD [] | _ => []

def tiOf (P : Program) (t : TypeId) : Option TI :=
  match P.underlying t, P.info? t with
  | some d, some i => match i.zero with
    | some z => match zVs z.cells.toList with
      | some zs => match shOf P d with
        | some sh => if zs.length = i.size then some ⟨sh, i.size, i.bytes, zs, flatOf P t⟩ else none
        | none => none
      | none => none
    | none => none
  | _, _ => none

structure TIs (P : Program) (t : TypeId) (i : TI) : Prop where
  und : ∃ d, P.underlying t = some d ∧ shOf P d = some i.sh
  info : ∃ j, P.info? t = some j ∧ j.size = i.size ∧ j.bytes = i.bytes ∧ ∃ z, j.zero = some z ∧ zVs z.cells.toList = some i.zero ∧ i.zero.length = i.size
  flat : i.flat = flatOf P t

theorem tiOf_spec {P : Program} {t : TypeId} {i : TI} (h : tiOf P t = some i) : TIs P t i := by
  unfold tiOf at h
  split at h
  · rename_i d j hd hj
    split at h
    · rename_i z hz
      split at h
      · rename_i zs hzs
        split at h
        · rename_i sh hsh
          split at h
          · rename_i hl
            cases h
            exact ⟨⟨d, hd, hsh⟩, ⟨j, hj, rfl, rfl, z, hz, hzs, hl⟩, rfl⟩
          · cases h
        · cases h
      · cases h
    · cases h
  · cases h

/-! ### constants -/
def vC : V → C
  | .sl [] => .nil
  | d => .v d

def cV : Value → C
  | .slice none 0 0 => .nil
  | .int k n => .v (.lit (.int k n))
  | .bool b => .v (.lit (.bool b))
  | .string s => .v (.lit (.string s))
  | .pointer none => .v (.lit (.pointer none))
  | .nilIface => .v (.lit .nilIface)
  | .nilFunc => .v (.lit .nilFunc)
  | _ => .any

def niceB : Value → Bool
  | .agg _ | .tuple _ => false
  | _ => true

def cAV : Value → AV
  | .agg xs => if xs.toList.all niceB then .agg (xs.toList.map cV) else .any
  | .slice none 0 0 => .one .nil
  | .int k n => .one (.v (.lit (.int k n)))
  | .bool b => .one (.v (.lit (.bool b)))
  | .string s => .one (.v (.lit (.string s)))
  | .pointer none => .one (.v (.lit (.pointer none)))
  | .nilIface => .one (.v (.lit .nilIface))
  | .nilFunc => .one (.v (.lit .nilFunc))
  | .func (.func f) first caps => if first.size = 0 ∧ caps.size = 0 then .fn f [] [] else .any
  | _ => .any

/-! ### the state -/
structure S where
  fr : List (Nat × AV)
  gl : Nat → AV
  hp : Hp

def getF : List (Nat × AV) → Nat → AV
  | [], _ => .any
  | (u, v) :: r, t => if u = t then v else getF r t

def S.eval (s : S) : Operand → AV
  | .tmp t => getF s.fr t
  | .const v => cAV v
  | .global g => s.gl g
  | .func f => .fn f [] []

def S.put (s : S) (d : Option Nat) (v : AV) : S :=
  match d with
  | none => s
  | some t => { s with fr := (t, v) :: s.fr }

/-- The state stands for a frame and a memory. -/
structure St (n : Nat) (w : World) (ok : Nat → Prop) (μ : List MB) (s : S) (a : Act) : Prop where
  hr : HR w ok μ s.hp
  size : a.tmps.size = n
  defers : a.defers = []
  fr : ∀ t, AVRel w ok μ (getF s.fr t) (a.tmps.getD t undef)
  gl : ∀ g ν, AVRel w ok ν (s.gl g) (.pointer (some ⟨g, 0, none⟩))

/-! ### values of one kind -/
def byteAt (s : ByteArray) (n : Nat) : Int := ((s.data.toList.getD n 0).toNat : Int)

def bitsV (op : BinOp) (k : IntKind) (x y : Int) : Int :=
  let a := BitVec.ofInt k.bits x
  let b := BitVec.ofInt k.bits y
  match op with
  | .and => k.wrap (a &&& b).toNat
  | .or => k.wrap (a ||| b).toNat
  | .xor => k.wrap (a ^^^ b).toNat
  | _ => k.wrap (a &&& ~~~b).toNat

def binI (op : BinOp) (k : IntKind) (a b : Int) : Prop × Value :=
  match op with
  | .add => (True, .int k (k.wrap (a + b)))
  | .sub => (True, .int k (k.wrap (a - b)))
  | .mul => (True, .int k (k.wrap (a * b)))
  | .quo => (b ≠ 0, .int k (k.wrap (a.tdiv b)))
  | .rem => (b ≠ 0, .int k (a.tmod b))
  | .eql => (True, .bool (a == b))
  | .neq => (True, .bool (a != b))
  | .lss => (True, .bool (decide (a < b)))
  | .leq => (True, .bool (decide (a ≤ b)))
  | .gtr => (True, .bool (decide (a > b)))
  | .geq => (True, .bool (decide (a ≥ b)))
  | .shl => (0 ≤ b, .int k (k.wrap (a * 2 ^ (min b.toNat k.bits))))
  | .shr => (0 ≤ b, .int k (a.fdiv (2 ^ (min b.toNat k.bits))))
  | op => (True, .int k (bitsV op k a b))

def binS (op : BinOp) (a b : ByteArray) : Option (Prop × Value) :=
  match op with
  | .add => some (a.size + b.size ≤ 9223372036854775807, .string (a ++ b))
  | .eql => some (True, .bool (a == b))
  | .neq => some (True, .bool (!(a == b)))
  | .lss => some (True, .bool (Op.bytesLess a.data.toList b.data.toList))
  | .leq => some (True, .bool (Op.bytesLess a.data.toList b.data.toList || (a == b)))
  | .gtr => some (True, .bool (!(Op.bytesLess a.data.toList b.data.toList || (a == b))))
  | .geq => some (True, .bool (!(Op.bytesLess a.data.toList b.data.toList)))
  | _ => none

def isShift : BinOp → Bool | .shl | .shr => true | _ => false

def binV (sh : Option Sh) (op : BinOp) : Value → Value → Option (Prop × Value)
  | .int k a, .int k' b => if isShift op || k == k' then some (binI op k a b) else none
  | .string a, .string b => binS op a b
  | .bool a, .bool b => match sh, op with
    | some .bool, .eql => some (True, .bool (a == b))
    | some .bool, .neq => some (True, .bool (!(a == b)))
    | _, _ => none
  | .nilIface, .nilIface => none
  | .iface _ _, .nilIface => match sh, op with
    | some .iface, .eql => some (True, .bool false)
    | some .iface, .neq => some (True, .bool true)
    | _, _ => none
  | _, _ => none

def eqCells : List Sh → List C → List C → Option Bool
  | [], [], [] => some true
  | .int _ :: l, .v (.lit (.int k a)) :: r, .v (.lit (.int k' b)) :: r' => if k = k' then (eqCells l r r').map ((a == b) && ·) else none
  | .bool :: l, .v (.lit (.bool a)) :: r, .v (.lit (.bool b)) :: r' => (eqCells l r r').map ((a == b) && ·)
  | .string :: l, .v (.lit (.string a)) :: r, .v (.lit (.string b)) :: r' => (eqCells l r r').map ((a == b) && ·)
  | _, _, _ => none

def binAV (i : Option TI) (op : BinOp) : AV → AV → Option (Prop × AV)
  | .one (.v (.lit a)), .one (.v (.lit b)) => (binV (i.map TI.sh) op a b).map fun (p, v) => (p, .one (.v (.lit v)))
  | .agg xs, .agg ys => match i with
    | some i => if i.flat.isEmpty then none else
        match op, eqCells i.flat xs ys with
        | .eql, some b => some (True, .one (.v (.lit (.bool b))))
        | .neq, some b => some (True, .one (.v (.lit (.bool (!b)))))
        | _, _ => none
    | none => none
  | _, _ => none

def unAV (op : UnOp) : AV → Option AV
  | .one (.v (.lit (.int k n))) => match op with | .neg => some (.one (.v (.lit (.int k (k.wrap (0 - n)))))) | _ => none
  | .one (.v (.lit (.bool b))) => match op with | .not => some (.one (.v (.lit (.bool !b)))) | _ => none
  | _ => none

def byteOf : List V → Option UInt8
  | [.lit (.int .u8 n)] => some (UInt8.ofNat n.toNat)
  | _ => none

def bytesOf : List (List V) → Option (List UInt8)
  | [] => some []
  | r :: rs => match byteOf r, bytesOf rs with | some b, some l => some (b :: l) | _, _ => none

/-- The rows behind a slice, whatever its form. -/
def rowsOf (hp : Hp) : AV → Option (List (List V))
  | .one (.v (.sl rows)) => some rows
  | .one (.full rows) => some rows
  | .one .nil => some []
  | .one (.ar i) => match hp[i]? with | some (some (.arr _ _ rows)) => some rows | _ => none
  | _ => none

def lenAV (hp : Hp) (v : AV) : Option Int :=
  match v with
  | .one (.v (.lit (.string s))) => some s.size
  | _ => (rowsOf hp v).map fun r => (r.length : Int)

def convAV (P : Program) (src dst : Option TI) (hp : Hp) (v : AV) : Option AV :=
  match src.map TI.sh, dst.map TI.sh, v with
  | some _, some (.int k), .one (.v (.lit (.int _ n))) => some (.one (.v (.lit (.int k (k.wrap n)))))
  | some .string, some .string, .one (.v (.lit (.string s))) => some (.one (.v (.lit (.string s))))
  | some (.slice e), some .string, v => match (tiOf P e).map TI.sh with
    | some (.int .u8) => ((rowsOf hp v).bind bytesOf).map fun l => .one (.v (.lit (.string ⟨l.toArray⟩)))
    | _ => none
  | _, _, _ => none

def mkAV (i : TI) (cs : List C) : Option AV :=
  if cs.length = i.size then
    if i.isAgg then some (.agg cs) else match cs with | [c] => some (.one c) | _ => none
  else none

def loadAV (i : TI) (hp : Hp) (a : AV) : Option AV :=
  match a with
  | .one (.ptr b off) => match hp[b]? with
    | some (some (.box _ cs)) => mkAV i ((cs.drop off).take i.size)
    | _ => none
  | .one (.eptr b r k off) => match hp[b]? with
    | some (some (.arr _ k' rows)) => if k' = k then match rows[r]? with | some row => mkAV i (((row.drop off).take i.size).map .v) | none => none else none
    | _ => none
  | .one (.vptr cs) => mkAV i ((cs.take i.size).map .v)
  | _ => none

def fieldAddrAV (i : TI) (f : Nat) (a : AV) : Option AV :=
  match i.sh with
  | .struct fs => match fs[f]? with
    | some (_, o) => match a with
      | .one (.ptr b off) => some (.one (.ptr b (off + o)))
      | .one (.eptr b r k off) => some (.one (.eptr b r k (off + o)))
      | .one (.vptr cs) => some (.one (.vptr (cs.drop o)))
      | _ => none
    | none => none
  | _ => none

def fieldAV (P : Program) (i : TI) (f : Nat) (a : AV) : Option AV :=
  match i.sh with
  | .struct fs => match fs[f]? with
    | some (t, o) => match a, tiOf P t with
      | .agg cs, some j => mkAV j ((cs.drop o).take j.size)
      | _, _ => none
    | none => none
  | _ => none

def intOfAV : AV → Option Int
  | .one (.v (.lit (.int _ n))) => some n
  | _ => none

def indexAddrAV (P : Program) (i : TI) (hp : Hp) (a : AV) (n : Int) : Option (Prop × AV) :=
  match i.sh with
  | .slice e => match tiOf P e with
    | some j => match a with
      | .one (.ar b) => match hp[b]? with
        | some (some (.arr _ k rows)) => if k = j.size then some (0 ≤ n ∧ n < rows.length, .one (.eptr b n.toNat k 0)) else none
        | _ => none
      | .one (.v (.sl rows)) => match rows[n.toNat]? with | some row => if row.length = j.size then some (0 ≤ n, .one (.vptr row)) else none | none => none
      | .one (.full rows) => match rows[n.toNat]? with | some row => if row.length = j.size then some (0 ≤ n, .one (.vptr row)) else none | none => none
      | _ => none
    | none => none
  | .array m e => match tiOf P e with
    | some j => match a with
      | .one (.ptr b off) => some (0 ≤ n ∧ n < m, .one (.ptr b (off + n.toNat * j.size)))
      | .one (.vptr cs) => some (0 ≤ n ∧ n < m, .one (.vptr (cs.drop (n.toNat * j.size))))
      | _ => none
    | none => none
  | _ => none

def indexAV (P : Program) (i : TI) (a : AV) (n : Int) : Option (Prop × AV) :=
  match i.sh, a with
  | .string, .one (.v (.lit (.string s))) => some (0 ≤ n ∧ n < s.size, .one (.v (.lit (.int .u8 (byteAt s n.toNat)))))
  | .array m e, .agg cs => match tiOf P e with
    | some j => (mkAV j ((cs.drop (n.toNat * j.size)).take j.size)).map fun v => (0 ≤ n ∧ n < m, v)
    | none => none
  | _, _ => none

/-- Rows of so many cells each. -/
def UL (k : Nat) (rows : List (List V)) : Prop := ∀ row ∈ rows, row.length = k

/-- A bound of a slice expression: absent: 'd'. -/
def boundAV (d : Int) : Option AV → Option Int
  | none => some d
  | some v => intOfAV v

def sliceRows (k : Nat) (rows : List (List V)) (lo hi mx : Option AV) : Option (Prop × AV) :=
  match boundAV 0 lo, boundAV rows.length hi with
  | some l, some h => match mx with
    | none => some (UL k rows ∧ 0 ≤ l ∧ l ≤ h ∧ h ≤ rows.length, .one (.v (.sl ((rows.take h.toNat).drop l.toNat))))
    | some m => match intOfAV m, hi with
      | some m, some _ => some (UL k rows ∧ 0 ≤ l ∧ l ≤ h ∧ h = m ∧ m ≤ rows.length, .one (.full ((rows.take h.toNat).drop l.toNat)))
      | _, _ => none
  | _, _ => none

def sliceAV (P : Program) (i : TI) (a : AV) (lo hi mx : Option AV) : Option (Prop × AV) :=
  match i.sh with
  | .string => match a, mx with
    | .one (.v (.lit (.string s))), none => match boundAV 0 lo, boundAV s.size hi with
      | some l, some h => some (0 ≤ l ∧ l ≤ h ∧ h ≤ s.size, .one (.v (.lit (.string (s.extract l.toNat h.toNat)))))
      | _, _ => none
    | _, _ => none
  | .slice e => match tiOf P e with
    | some j => match a with
      | .one (.v (.sl rows)) => sliceRows j.size rows lo hi mx
      | .one (.full rows) => sliceRows j.size rows lo hi mx
      | .one .nil => sliceRows j.size [] lo hi mx
      | _ => none
    | none => none
  | _ => none

def minmaxI (isMax : Bool) : List AV → Option AV
  | [.one (.v (.lit (.int k a))), .one (.v (.lit (.int _ b)))] => some (.one (.v (.lit (.int k (if isMax then (if a < b then b else a) else (if b < a then b else a))))))
  | _ => none

def avC : AV → Option C
  | .one c => some c
  | _ => none

def avCs : List AV → Option (List C)
  | [] => some []
  | v :: r => match avC v, avCs r with | some c, some cs => some (c :: cs) | _, _ => none

/-- The cells of a value. -/
def cellsAV : AV → Option (List C)
  | .one c => some [c]
  | .agg cs => some cs
  | _ => none

def buildAV (i : TI) (place : Nat → Option (Nat × Nat)) : List C → List (Nat × AV) → Option (List C)
  | cs, [] => some cs
  | cs, (f, v) :: r => match place f, cellsAV v with
    | some (o, k), some xs => if xs.length = k ∧ o + k ≤ cs.length then buildAV i place (cs.take o ++ xs ++ cs.drop (o + k)) r else none
    | _, _ => none

def placesOf (P : Program) (i : TI) (f : Nat) : Option (Nat × Nat) :=
  match i.sh with
  | .struct fs => match fs[f]? with
    | some (t, o) => match tiOf P t with | some j => some (o, j.size) | none => none
    | none => none
  | .array _ e => match tiOf P e with | some j => some (f * j.size, j.size) | none => none
  | _ => none

def elemOk (P : Program) (i : TI) : Bool := match i.sh with | .array _ e => (tiOf P e).isSome | .struct _ => true | _ => false

/-- The operations that leave memory alone: what must hold, and the value. -/
def pureOp (P : Program) (hp : Hp) (ev : Operand → AV) : Op → Option (Prop × AV)
  | .move x | .assign x => some (True, ev x)
  | .load t a => match tiOf P t with | some i => (loadAV i hp (ev a)).map fun v => (True, v) | none => none
  | .binOp op t x y _ => binAV (tiOf P t) op (ev x) (ev y)
  | .unOp op _ x => (unAV op (ev x)).map fun v => (True, v)
  | .convert src dst x => (convAV P (tiOf P src) (tiOf P dst) hp (ev x)).map fun v => (True, v)
  | .slice t x lo hi mx => match tiOf P t with | some i => sliceAV P i (ev x) (lo.map ev) (hi.map ev) (mx.map ev) | none => none
  | .fieldAddr t x f => match tiOf P t with | some i => (fieldAddrAV i f (ev x)).map fun v => (True, v) | none => none
  | .field t x f => match tiOf P t with | some i => (fieldAV P i f (ev x)).map fun v => (True, v) | none => none
  | .indexAddr t x ix => match tiOf P t, intOfAV (ev ix) with | some i, some n => indexAddrAV P i hp (ev x) n | _, _ => none
  | .index t x ix => match tiOf P t, intOfAV (ev ix) with | some i, some n => indexAV P i (ev x) n | _, _ => none
  | .extract t i => match ev t with | .tup l => (l[i]?).map fun v => (True, v) | _ => none
  | .nilCheck x => match ev x with
    | .one (.ptr i o) => some (True, .one (.ptr i o))
    | .one (.eptr i r k o) => some (True, .one (.eptr i r k o))
    | .one (.vptr cs) => some (True, .one (.vptr cs))
    | .fn f a b => some (True, .fn f a b)
    | _ => none
  | .makeFunc (.func f) first caps => match avCs (first.toList.map ev), avCs (caps.toList.map ev) with
    | some a, some b => some (True, .fn f a b)
    | _, _ => none
  | .build t parts => match tiOf P t with
    | some i => if elemOk P i then (buildAV i (placesOf P i) (i.zero.map vC) (parts.toList.map fun (k, x) => (k, ev x))).map fun cs => (True, .agg cs) else none
    | none => none
  | .call { callee := .builtin .len, args := args, argTypes := ts } => match args.toList, ts.toList with
    | [x], [t] => match (tiOf P t).map TI.sh with
      | some .string => match ev x with | .one (.v (.lit (.string s))) => some (True, .one (.v (.lit (.int .i64 s.size)))) | _ => none
      | some (.slice _) => (rowsOf hp (ev x)).map fun r => (True, .one (.v (.lit (.int .i64 (r.length : Int)))))
      | some (.array n _) => some (True, .one (.v (.lit (.int .i64 (n : Int)))))
      | _ => none
    | _, _ => none
  | .call { callee := .builtin .min, args := args, argTypes := _ } => (minmaxI false (args.toList.map ev)).map fun v => (True, v)
  | .call { callee := .builtin .max, args := args, argTypes := _ } => (minmaxI true (args.toList.map ev)).map fun v => (True, v)
  | _ => none

end Go.Proofs.AE
