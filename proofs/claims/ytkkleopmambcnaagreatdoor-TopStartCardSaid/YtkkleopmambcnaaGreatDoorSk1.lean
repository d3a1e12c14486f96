/- Texts joined. -/
import Derived.WalkKit
import Derived.Below
import Derived.Laws.AppendOwn
import Derived.Laws.OwnMore
import Derived.Laws.CopyRow
import Derived.Laws.Rows
import Derived.Laws.StructEq
import Derived.Laws.Build
import Derived.Laws.IdiomElems
import Derived.Laws.Small
import Derived.Laws.Strings
import Derived.Laws.Strings2
import Derived.Laws.Slices
import Derived.Laws.BytesArg
import Derived.Laws.Tables
import Derived.MapKept
import Derived.Laws.MakeOwn
import Derived.Lib.AppendStr
import Derived.Great.BuildSlice
import Derived.Lib.AppendZerosOnto
import Derived.Lib.Overlaps
set_option linter.unusedVariables false
set_option linter.unusedSimpArgs false
namespace Go.Proofs.AE
open Go Go.RowKit
inductive All2 {α β : Type} (R : α → β → Prop) : List α → List β → Prop where
  | nil : All2 R [] []
  | cons {a : α} {b : β} {l : List α} {m : List β} (h : R a b) (t : All2 R l m) : All2 R (a :: l) (b :: m)
namespace All2
variable {α β : Type} {R S : α → β → Prop}
theorem mono (hs : ∀ a b, R a b → S a b) {l : List α} {m : List β} (h : All2 R l m) : All2 S l m := by
  induction h with
  | nil => exact .nil
  | cons h _ ih => exact .cons (hs _ _ h) ih
theorem length {l : List α} {m : List β} (h : All2 R l m) : l.length = m.length := by
  induction h with
  | nil => rfl
  | cons _ _ ih => simp [ih]
theorem get {l : List α} {m : List β} (h : All2 R l m) : ∀ {i : Nat} {a : α}, l[i]? = some a → ∃ b, m[i]? = some b ∧ R a b := by
  induction h with
  | nil => intro i a hi; simp at hi
  | cons h _ ih =>
    intro i a hi
    cases i with
    | zero => simp at hi; subst hi; exact ⟨_, rfl, h⟩
    | succ i => simpa using ih (by simpa using hi)
theorem of_get {l : List α} {m : List β} (hl : l.length = m.length) (h : ∀ (i : Nat) a b, l[i]? = some a → m[i]? = some b → R a b) : All2 R l m := by
  induction l generalizing m with
  | nil => cases m with | nil => exact .nil | cons => simp at hl
  | cons a l ih =>
    cases m with
    | nil => simp at hl
    | cons b m => exact .cons (h 0 a b rfl rfl) (ih (by simpa using hl) fun i x y hx hy => h (i + 1) x y (by simpa using hx) (by simpa using hy))
theorem append {l l' : List α} {m m' : List β} (h : All2 R l m) (h' : All2 R l' m') : All2 R (l ++ l') (m ++ m') := by
  induction h with
  | nil => exact h'
  | cons h _ ih => exact .cons h ih
theorem drop {l : List α} {m : List β} (h : All2 R l m) (n : Nat) : All2 R (l.drop n) (m.drop n) := by
  induction h generalizing n with
  | nil => simp; exact .nil
  | cons h t ih => cases n with | zero => exact .cons h t | succ n => simpa using ih n
theorem take {l : List α} {m : List β} (h : All2 R l m) (n : Nat) : All2 R (l.take n) (m.take n) := by
  induction h generalizing n with
  | nil => simp; exact .nil
  | cons h t ih => cases n with | zero => exact .nil | succ n => simpa using .cons h (ih n)
theorem set {l : List α} {m : List β} (h : All2 R l m) {a : α} {b : β} (hab : R a b) (i : Nat) : All2 R (l.set i a) (m.set i b) := by
  induction h generalizing i with
  | nil => simp; exact .nil
  | cons h t ih => cases i with | zero => exact .cons hab t | succ i => exact .cons h (ih i)
theorem mem {l : List α} {m : List β} (h : All2 R l m) {b : β} (hb : b ∈ m) : ∃ a, a ∈ l ∧ R a b := by
  induction h with
  | nil => simp at hb
  | cons h t ih =>
    rcases List.mem_cons.1 hb with rfl | hb
    · exact ⟨_, List.mem_cons_self .., h⟩
    · obtain ⟨a, ha, r⟩ := ih hb; exact ⟨a, List.mem_cons_of_mem _ ha, r⟩
theorem map_left {γ : Type} {f : γ → α} {l : List γ} {m : List β} (h : All2 (fun c b => R (f c) b) l m) : All2 R (l.map f) m := by
  induction h with
  | nil => exact .nil
  | cons h _ ih => exact .cons h ih
end All2
inductive V where
  | lit (x : Value)
  | sl (rows : List (List V))
inductive C where
  | v (d : V)
  | ptr (i : Nat) (off : Nat)
  | eptr (i row k off : Nat)
  | ar (i : Nat)
  | sub (i k off len c : Nat)
  | mp (i : Nat)
  | vptr (cs : List V)
  | full (rows : List (List V))
  | nil
  | any
inductive AV where
  | one (c : C)
  | agg (cs : List C)
  | tup (l : List AV)
  | fn (f : Nat) (first caps : List C)
  | any
inductive Blk where
  | box (t : TypeId) (cs : List C)
  | arr (e : TypeId) (k : Nat) (rows : List (List V))
  | arj (e : TypeId) (k c : Nat) (rows : List (List V))
  | mp (t : TypeId) (es : List (ByteArray × Value))
inductive MB where
  | box (b : Nat)
  | arr (x : Value)
def MB.own : MB → Option Nat
  | .box b => some b
  | .arr x => x.ownBlock
inductive VRel (w : World) (ok : Nat → Prop) : V → Value → Prop where
  | lit (x : Value) (h : x.oneCell' = true) : VRel w ok (.lit x) x
  | nil : VRel w ok (.sl []) (.slice none 0 0)
  | emp (a : Addr) (cap : Nat) (hmax : cap ≤ maxLen) : VRel w ok (.sl []) (.slice (some a) 0 cap)
  | sl (rows : List (List V)) (b off cap : Nat) (cv : Nat → Nat → Value) (hok : rows ≠ [] → ok b) (hcap : rows.length ≤ cap) (hmax : cap ≤ maxLen)
      (hc : ∀ (i : Nat) row (j : Nat) v, rows[i]? = some row → row[j]? = some v → w.cell? ⟨b, off + (i * row.length + j), none⟩ = some (cv i j))
      (hv : ∀ (i : Nat) row (j : Nat) v, rows[i]? = some row → row[j]? = some v → VRel w ok v (cv i j)) :
      VRel w ok (.sl rows) (.slice (some ⟨b, off, none⟩) rows.length cap)
theorem VRel.oneCell {w : World} {ok : Nat → Prop} {v : V} {x : Value} (h : VRel w ok v x) : x.oneCell' = true := by
  cases h <;> first | assumption | rfl
theorem VRel.mono {w w' : World} {ok ok' : Nat → Prop} (hw : ∀ b, ok b → w'.heap[b]? = w.heap[b]?) (ho : ∀ b, ok b → ok' b) {v : V} {x : Value} (h : VRel w ok v x) : VRel w' ok' v x := by
  induction h with
  | lit x h => exact .lit x h
  | nil => exact .nil
  | emp a cap h => exact .emp a cap h
  | sl rows b off cap cv hok hcap hmax hc hv ih =>
    refine .sl rows b off cap cv (fun hn => ho b (hok hn)) hcap hmax ?_ ih
    intro i row j v hi hj
    have hne : rows ≠ [] := by rintro rfl; simp at hi
    have h1 := hc i row j v hi hj
    unfold World.cell? at *
    rw [hw b (hok hne)]; exact h1
inductive SubOf (k off len c : Nat) : Value → Value → Prop where
  | nil {n : Nat} (h : len = 0) (hc : c = 0) : SubOf k off len c (.slice none n c) (.slice none 0 0)
  | at {g n o : Nat} (h : (off < c ∨ off = 0) → o = off * k) : SubOf k off len c (.slice (some ⟨g, 0, none⟩) n c) (.slice (some ⟨g, o, none⟩) len (c - off))
theorem SubOf.oneCell {k off len c : Nat} {x y : Value} (h : SubOf k off len c x y) : y.oneCell' = true := by cases h <;> rfl
inductive CRel (w : World) (ok : Nat → Prop) (μ : List MB) : C → Value → Prop where
  | v {d : V} {x : Value} (h : VRel w ok d x) : CRel w ok μ (.v d) x
  | ptr {i b : Nat} (off : Nat) (h : μ[i]? = some (.box b)) : CRel w ok μ (.ptr i off) (.pointer (some ⟨b, off, none⟩))
  | eptr {i b n cap : Nat} (row k off : Nat) (h : μ[i]? = some (.arr (.slice (some ⟨b, 0, none⟩) n cap))) : CRel w ok μ (.eptr i row k off) (.pointer (some ⟨b, row * k + off, none⟩))
  | ar {i : Nat} {x : Value} (h : μ[i]? = some (.arr x)) (h1 : x.oneCell' = true) : CRel w ok μ (.ar i) x
  | sub {i : Nat} {x y : Value} (k off len c : Nat) (h : μ[i]? = some (.arr x)) (hs : SubOf k off len c x y) : CRel w ok μ (.sub i k off len c) y
  | mp {i b : Nat} (h : μ[i]? = some (.box b)) : CRel w ok μ (.mp i) (.map (some b))
  | vptr {cs : List V} (b off : Nat) (cv : Nat → Value) (hok : ok b) (hc : ∀ (j : Nat) v, cs[j]? = some v → w.cell? ⟨b, off + j, none⟩ = some (cv j))
      (hv : ∀ (j : Nat) v, cs[j]? = some v → VRel w ok v (cv j)) : CRel w ok μ (.vptr cs) (.pointer (some ⟨b, off, none⟩))
  | full {rows : List (List V)} {a : Option Addr} (h : VRel w ok (.sl rows) (.slice a rows.length rows.length)) : CRel w ok μ (.full rows) (.slice a rows.length rows.length)
  | nil : CRel w ok μ .nil (.slice none 0 0)
  | any {x : Value} (h : x.oneCell' = true) : CRel w ok μ .any x
theorem CRel.oneCell {w : World} {ok : Nat → Prop} {μ : List MB} {c : C} {x : Value} (h : CRel w ok μ c x) : x.oneCell' = true := by
  cases h <;> first | assumption | rfl | (exact VRel.oneCell ‹_›) | (exact SubOf.oneCell ‹_›)
theorem CRel.mono {w w' : World} {ok ok' : Nat → Prop} {μ : List MB} (hw : ∀ b, ok b → w'.heap[b]? = w.heap[b]?) (ho : ∀ b, ok b → ok' b) {c : C} {x : Value} (h : CRel w ok μ c x) : CRel w' ok' μ c x := by
  cases h with
  | v h => exact .v (h.mono hw ho)
  | ptr off h => exact .ptr off h
  | eptr r k off h => exact .eptr r k off h
  | ar h h1 => exact .ar h h1
  | sub k off len c h hs => exact .sub k off len c h hs
  | mp h => exact .mp h
  | vptr b off cv hok hc hv =>
    refine .vptr b off cv (ho b hok) ?_ fun j v hj => (hv j v hj).mono hw ho
    intro j v hj
    have h1 := hc j v hj
    unfold World.cell? at *
    rw [hw b hok]; exact h1
  | full h => exact .full (h.mono hw ho)
  | nil => exact .nil
  | any h => exact .any h
theorem CRel.ext {w : World} {ok : Nat → Prop} {μ μ' : List MB} {c : C} {x : Value} (h : CRel w ok μ c x) (hm : ∀ (i : Nat) m, μ[i]? = some m → μ'[i]? = some m) : CRel w ok μ' c x := by
  cases h with
  | v h => exact .v h
  | ptr off h => exact .ptr off (hm _ _ h)
  | eptr r k off h => exact .eptr r k off (hm _ _ h)
  | ar h h1 => exact .ar (hm _ _ h) h1
  | sub k off len c h hs => exact .sub k off len c (hm _ _ h) hs
  | mp h => exact .mp (hm _ _ h)
  | vptr b off cv hok hc hv => exact .vptr b off cv hok hc hv
  | full h => exact .full h
  | nil => exact .nil
  | any h => exact .any h
mutual
inductive AVRel (w : World) (ok : Nat → Prop) (μ : List MB) : AV → Value → Prop where
  | one {c : C} {x : Value} (h : CRel w ok μ c x) : AVRel w ok μ (.one c) x
  | agg {cs : List C} {xs : Array Value} (h : All2 (CRel w ok μ) cs xs.toList) : AVRel w ok μ (.agg cs) (.agg xs)
  | tup {l : List AV} {xs : Array Value} (h : AVRels w ok μ l xs.toList) : AVRel w ok μ (.tup l) (.tuple xs)
  | fn {f : Nat} {first caps : List C} {fs xs : Array Value} (h : All2 (CRel w ok μ) first fs.toList) (h' : All2 (CRel w ok μ) caps xs.toList) : AVRel w ok μ (.fn f first caps) (.func (.func f) fs xs)
  | any {x : Value} : AVRel w ok μ .any x
inductive AVRels (w : World) (ok : Nat → Prop) (μ : List MB) : List AV → List Value → Prop where
  | nil : AVRels w ok μ [] []
  | cons {v : AV} {x : Value} {l : List AV} {xs : List Value} (h : AVRel w ok μ v x) (t : AVRels w ok μ l xs) : AVRels w ok μ (v :: l) (x :: xs)
end
mutual
theorem AVRel.mono {w w' : World} {ok ok' : Nat → Prop} {μ : List MB} (hw : ∀ b, ok b → w'.heap[b]? = w.heap[b]?) (ho : ∀ b, ok b → ok' b) : ∀ {v : AV} {x : Value}, AVRel w ok μ v x → AVRel w' ok' μ v x
  | _, _, .one h => .one (h.mono hw ho)
  | _, _, .agg h => .agg (h.mono fun _ _ h => h.mono hw ho)
  | _, _, .tup h => .tup (AVRels.mono hw ho h)
  | _, _, .fn h h' => .fn (h.mono fun _ _ h => h.mono hw ho) (h'.mono fun _ _ h => h.mono hw ho)
  | _, _, .any => .any
theorem AVRels.mono {w w' : World} {ok ok' : Nat → Prop} {μ : List MB} (hw : ∀ b, ok b → w'.heap[b]? = w.heap[b]?) (ho : ∀ b, ok b → ok' b) : ∀ {l : List AV} {xs : List Value}, AVRels w ok μ l xs → AVRels w' ok' μ l xs
  | _, _, .nil => .nil
  | _, _, .cons h t => .cons (AVRel.mono hw ho h) (AVRels.mono hw ho t)
end
mutual
theorem AVRel.ext {w : World} {ok : Nat → Prop} {μ μ' : List MB} (hm : ∀ (i : Nat) m, μ[i]? = some m → μ'[i]? = some m) : ∀ {v : AV} {x : Value}, AVRel w ok μ v x → AVRel w ok μ' v x
  | _, _, .one h => .one (h.ext hm)
  | _, _, .agg h => .agg (h.mono fun _ _ h => h.ext hm)
  | _, _, .tup h => .tup (AVRels.ext hm h)
  | _, _, .fn h h' => .fn (h.mono fun _ _ h => h.ext hm) (h'.mono fun _ _ h => h.ext hm)
  | _, _, .any => .any
theorem AVRels.ext {w : World} {ok : Nat → Prop} {μ μ' : List MB} (hm : ∀ (i : Nat) m, μ[i]? = some m → μ'[i]? = some m) : ∀ {l : List AV} {xs : List Value}, AVRels w ok μ l xs → AVRels w ok μ' l xs
  | _, _, .nil => .nil
  | _, _, .cons h t => .cons (AVRel.ext hm h) (AVRels.ext hm t)
end
def BRel (w : World) (ok : Nat → Prop) (μ : List MB) : Blk → MB → Prop
  | .box t cs, .box b => ∃ xs : Array Value, w.heap[b]? = some (.cells xs t (0, 0)) ∧ All2 (CRel w ok μ) cs xs.toList
  | .arr e k rows, .arr x => ∃ xs, w.ownsRow 0 e k x rows.length xs ∧ All2 (VRel w ok) rows.flatten xs ∧ ∀ row ∈ rows, row.length = k
  | .arj e k c rows, .arr x => 0 < k ∧ (∀ row ∈ rows, row.length = k) ∧ ((x = .slice none 0 0 ∧ c = 0 ∧ rows = []) ∨ ∃ g n cur, x = .slice (some ⟨g, 0, none⟩) n c ∧ w.heap[g]? = some (.cells cur e (0, 0)) ∧ rows.length ≤ c ∧ c ≤ maxLen ∧ cur.size = c * k ∧ All2 (VRel w ok) rows.flatten (cur.toList.take (rows.length * k)))
  | .mp _ es, .box b => ∃ ms clock, w.heap[b]? = some (.map ms clock) ∧ ms.toList.map (fun e => (e.key, e.val)) = es.map (fun e => (.string e.1, e.2)) ∧ ∀ e ∈ es, e.2.oneCell' = true
  | _, _ => False
abbrev Hp := List (Option Blk)
structure HR (w : World) (ok : Nat → Prop) (μ : List MB) (hp : Hp) : Prop where
  len : μ.length = hp.length
  rel : ∀ (i : Nat) b, hp[i]? = some (some b) → ∃ m, μ[i]? = some m ∧ BRel w ok μ b m
  inj : ∀ (i j : Nat) b c m n k, i ≠ j → hp[i]? = some (some b) → hp[j]? = some (some c) → μ[i]? = some m → μ[j]? = some n → m.own = some k → n.own ≠ some k
  okn : ∀ k, ok k → k < w.heap.size ∧ ∀ (i : Nat) b m, hp[i]? = some (some b) → μ[i]? = some m → m.own ≠ some k
end Go.Proofs.AE
set_option linter.unusedVariables false
set_option linter.unusedSimpArgs false
namespace Go.Proofs.AE
open Go Go.RowKit
inductive Sh where
  | bool | int (k : IntKind) | string | slice (e : Nat) | struct (fs : List (Nat × Nat)) | array (n e : Nat) | pointer (e : Nat) | iface | other
structure TI where
  sh : Sh
  size : Nat
  bytes : Nat
  zero : List V
  flat : List Sh
def TI.isAgg (i : TI) : Bool := match i.sh with | .struct _ | .array _ _ => true | _ => false
def shOf (P : Program) : TypeDesc → Option Sh
  | .bool => some .bool
  | .int k => some (.int k)
  | .string => some .string
  | .slice e => some (.slice e)
  | .struct fs => if fs.toList.all (fun f => match P.info? f.type with | some i => i.size != 0 | none => false) then some (.struct (fs.toList.map fun f => (f.type, f.offset))) else none
  | .array n e => some (.array n e)
  | .pointer e => some (.pointer e)
  | .interface _ => some .iface
  | _ => some .other
def zV : Value → Option V
  | .slice none 0 0 => some (.sl [])
  | .int k n => some (.lit (.int k n))
  | .bool b => some (.lit (.bool b))
  | .string s => some (.lit (.string s))
  | .pointer none => some (.lit (.pointer none))
  | .nilIface => some (.lit .nilIface)
  | .nilFunc => some (.lit .nilFunc)
  | _ => none
def zVs : List Value → Option (List V)
  | [] => some []
  | x :: r => match zV x, zVs r with | some a, some b => some (a :: b) | _, _ => none
def flatFs (rec : TypeId → Option (List Sh)) (sz : TypeId → Option Nat) : List Field → List Sh → Option (List Sh)
  | [], acc => some acc
  | f :: fs, acc =>
    if f.name ≠ "_" ∧ f.offset = acc.length then
      match rec f.type with
      | some l => if sz f.type = some l.length then flatFs rec sz fs (acc ++ l) else none
      | none => none
    else none
def flatB (P : Program) : (d : Nat) → TypeId → Option (List Sh)
  | 0, _ => none
  | d + 1, t => match P.underlying t with
    | some .bool => some [.bool]
    | some (.int k) => some [.int k]
    | some .string => some [.string]
    | some (.struct fs) => if P.stoodInHeld t then none else flatFs (flatB P d) (fun u => (P.info? u).map (·.size)) fs.toList []
    | _ => none
def flatOf (P : Program) (t : TypeId) : List Sh := if P.eqGuardType P.depth t then [] else match P.underlying t with | some (.struct _) => (flatB P 12 t).getD [] | _ => []
def tiOf (P : Program) (t : TypeId) : Option TI :=
  match P.underlying t, P.info? t with
  | some d, some i => match i.zero with
    | some z => match zVs z.cells.toList with
      | some zs => match shOf P d with
        | some sh => if zs.length = i.size then some ⟨sh, i.size, i.bytes, zs, flatOf P t⟩ else none
        | none => none
      | none => none
    | none => none
  | _, _ => none
structure TIs (P : Program) (t : TypeId) (i : TI) : Prop where
  und : ∃ d, P.underlying t = some d ∧ shOf P d = some i.sh
  info : ∃ j, P.info? t = some j ∧ j.size = i.size ∧ j.bytes = i.bytes ∧ ∃ z, j.zero = some z ∧ zVs z.cells.toList = some i.zero ∧ i.zero.length = i.size
  flat : i.flat = flatOf P t
theorem tiOf_spec {P : Program} {t : TypeId} {i : TI} (h : tiOf P t = some i) : TIs P t i := by
  unfold tiOf at h
  split at h
  · rename_i d j hd hj
    split at h
    · rename_i z hz
      split at h
      · rename_i zs hzs
        split at h
        · rename_i sh hsh
          split at h
          · rename_i hl
            cases h
            exact ⟨⟨d, hd, hsh⟩, ⟨j, hj, rfl, rfl, z, hz, hzs, hl⟩, rfl⟩
          · cases h
        · cases h
      · cases h
    · cases h
  · cases h
def mapTy (P : Program) (t : TypeId) : Option Value :=
  match P.underlying t with
  | some (.map k e) => match P.underlying k, P.info? e with
    | some .string, some i => match i.zero with
      | some z => if z.oneCell' = true then some z else none
      | none => none
    | _, _ => none
  | _ => none
theorem mapTy_spec {P : Program} {t : TypeId} {z : Value} (h : mapTy P t = some z) : ∃ k e i, P.underlying t = some (.map k e) ∧ P.underlying k = some .string ∧ P.info? e = some i ∧ i.zero = some z ∧ z.oneCell' = true := by
  unfold mapTy at h
  split at h
  · rename_i k e hu
    split at h
    · rename_i i hk hi
      split at h
      · rename_i z' hz
        split at h
        · rename_i ho; cases h; exact ⟨k, e, i, hu, hk, hi, hz, ho⟩
        · cases h
      · cases h
    · cases h
  · cases h
def mpFind : List (ByteArray × Value) → ByteArray → Option Value
  | [], _ => none
  | (a, v) :: r, k => if k = a then some v else mpFind r k
def mpPut : List (ByteArray × Value) → ByteArray → Value → List (ByteArray × Value)
  | [], k, v => [(k, v)]
  | (a, u) :: r, k, v => if k = a then (k, v) :: r else (a, u) :: mpPut r k v
def mpDel : List (ByteArray × Value) → ByteArray → List (ByteArray × Value)
  | [], _ => []
  | (a, u) :: r, k => if k = a then r else (a, u) :: mpDel r k
def mpLook (P : Program) (hp : Hp) (t : TypeId) (x k : AV) (ok : Bool) : Option (Prop × AV) :=
  match mapTy P t, x, k with
  | some z, .one (.mp i), .one (.v (.lit (.string s))) => match hp[i]? with
    | some (some (.mp _ es)) => some (True, if ok = true then .tup [.one (.v (.lit ((mpFind es s).getD z))), .one (.v (.lit (.bool (mpFind es s).isSome)))] else .one (.v (.lit ((mpFind es s).getD z))))
    | _ => none
  | _, _, _ => none
def mpLen (P : Program) (hp : Hp) (t : TypeId) (v : AV) : Option (Prop × AV) :=
  match mapTy P t, v with
  | some _, .one (.mp i) => match hp[i]? with
    | some (some (.mp _ es)) => some (True, .one (.v (.lit (.int .i64 (es.length : Int)))))
    | _ => none
  | _, _ => none
def vC : V → C
  | .sl [] => .nil
  | d => .v d
def cV : Value → C
  | .slice none 0 0 => .nil
  | .int k n => .v (.lit (.int k n))
  | .bool b => .v (.lit (.bool b))
  | .string s => .v (.lit (.string s))
  | .pointer none => .v (.lit (.pointer none))
  | .nilIface => .v (.lit .nilIface)
  | .nilFunc => .v (.lit .nilFunc)
  | _ => .any
def niceB : Value → Bool
  | .agg _ | .tuple _ => false
  | _ => true
def cAV : Value → AV
  | .agg xs => if xs.toList.all niceB then .agg (xs.toList.map cV) else .any
  | .slice none 0 0 => .one .nil
  | .int k n => .one (.v (.lit (.int k n)))
  | .bool b => .one (.v (.lit (.bool b)))
  | .string s => .one (.v (.lit (.string s)))
  | .pointer none => .one (.v (.lit (.pointer none)))
  | .nilIface => .one (.v (.lit .nilIface))
  | .nilFunc => .one (.v (.lit .nilFunc))
  | .func (.func f) first caps => if first.size = 0 ∧ caps.size = 0 then .fn f [] [] else .any
  | _ => .any
structure S where
  fr : List (Nat × AV)
  gl : Nat → AV
  hp : Hp
def getF : List (Nat × AV) → Nat → AV
  | [], _ => .any
  | (u, v) :: r, t => if u = t then v else getF r t
def S.eval (s : S) : Operand → AV
  | .tmp t => getF s.fr t
  | .const v => cAV v
  | .global g => s.gl g
  | .func f => .fn f [] []
def S.put (s : S) (d : Option Nat) (v : AV) : S :=
  match d with
  | none => s
  | some t => { s with fr := (t, v) :: s.fr }
structure St (n : Nat) (w : World) (ok : Nat → Prop) (μ : List MB) (s : S) (a : Act) : Prop where
  hr : HR w ok μ s.hp
  size : a.tmps.size = n
  defers : a.defers = []
  fr : ∀ t, AVRel w ok μ (getF s.fr t) (a.tmps.getD t undef)
  gl : ∀ g ν, AVRel w ok ν (s.gl g) (.pointer (some ⟨g, 0, none⟩))
def byteAt (s : ByteArray) (n : Nat) : Int := ((s.data.toList.getD n 0).toNat : Int)
def bitsV (op : BinOp) (k : IntKind) (x y : Int) : Int :=
  let a := BitVec.ofInt k.bits x
  let b := BitVec.ofInt k.bits y
  match op with
  | .and => k.wrap (a &&& b).toNat
  | .or => k.wrap (a ||| b).toNat
  | .xor => k.wrap (a ^^^ b).toNat
  | _ => k.wrap (a &&& ~~~b).toNat
def binI (op : BinOp) (k : IntKind) (a b : Int) : Prop × Value :=
  match op with
  | .add => (True, .int k (k.wrap (a + b)))
  | .sub => (True, .int k (k.wrap (a - b)))
  | .mul => (True, .int k (k.wrap (a * b)))
  | .quo => (b ≠ 0, .int k (k.wrap (a.tdiv b)))
  | .rem => (b ≠ 0, .int k (a.tmod b))
  | .eql => (True, .bool (a == b))
  | .neq => (True, .bool (a != b))
  | .lss => (True, .bool (decide (a < b)))
  | .leq => (True, .bool (decide (a ≤ b)))
  | .gtr => (True, .bool (decide (a > b)))
  | .geq => (True, .bool (decide (a ≥ b)))
  | .shl => (0 ≤ b, .int k (k.wrap (a * 2 ^ (min b.toNat k.bits))))
  | .shr => (0 ≤ b, .int k (a.fdiv (2 ^ (min b.toNat k.bits))))
  | op => (True, .int k (bitsV op k a b))
def binS (op : BinOp) (a b : ByteArray) : Option (Prop × Value) :=
  match op with
  | .add => some (a.size + b.size ≤ 9223372036854775807, .string (a ++ b))
  | .eql => some (True, .bool (a == b))
  | .neq => some (True, .bool (!(a == b)))
  | .lss => some (True, .bool (Op.bytesLess a.data.toList b.data.toList))
  | .leq => some (True, .bool (Op.bytesLess a.data.toList b.data.toList || (a == b)))
  | .gtr => some (True, .bool (!(Op.bytesLess a.data.toList b.data.toList || (a == b))))
  | .geq => some (True, .bool (!(Op.bytesLess a.data.toList b.data.toList)))
  | _ => none
def isShift : BinOp → Bool | .shl | .shr => true | _ => false
def binV (sh : Option Sh) (op : BinOp) : Value → Value → Option (Prop × Value)
  | .int k a, .int k' b => if isShift op || k == k' then some (binI op k a b) else none
  | .string a, .string b => binS op a b
  | .bool a, .bool b => match sh, op with
    | some .bool, .eql => some (True, .bool (a == b))
    | some .bool, .neq => some (True, .bool (!(a == b)))
    | _, _ => none
  | .nilIface, .nilIface => none
  | .iface _ _, .nilIface => match sh, op with
    | some .iface, .eql => some (True, .bool false)
    | some .iface, .neq => some (True, .bool true)
    | _, _ => none
  | _, _ => none
def eqCells : List Sh → List C → List C → Option Bool
  | [], [], [] => some true
  | .int _ :: l, .v (.lit (.int k a)) :: r, .v (.lit (.int k' b)) :: r' => if k = k' then (eqCells l r r').map ((a == b) && ·) else none
  | .bool :: l, .v (.lit (.bool a)) :: r, .v (.lit (.bool b)) :: r' => (eqCells l r r').map ((a == b) && ·)
  | .string :: l, .v (.lit (.string a)) :: r, .v (.lit (.string b)) :: r' => (eqCells l r r').map ((a == b) && ·)
  | _, _, _ => none
def binAV (i : Option TI) (op : BinOp) : AV → AV → Option (Prop × AV)
  | .one (.v (.lit a)), .one (.v (.lit b)) => (binV (i.map TI.sh) op a b).map fun (p, v) => (p, .one (.v (.lit v)))
  | .agg xs, .agg ys => match i with
    | some i => if i.flat.isEmpty then none else
        match op, eqCells i.flat xs ys with
        | .eql, some b => some (True, .one (.v (.lit (.bool b))))
        | .neq, some b => some (True, .one (.v (.lit (.bool (!b)))))
        | _, _ => none
    | none => none
  | _, _ => none
def unAV (op : UnOp) : AV → Option AV
  | .one (.v (.lit (.int k n))) => match op with | .neg => some (.one (.v (.lit (.int k (k.wrap (0 - n)))))) | _ => none
  | .one (.v (.lit (.bool b))) => match op with | .not => some (.one (.v (.lit (.bool !b)))) | _ => none
  | _ => none
def byteOf : List V → Option UInt8
  | [.lit (.int .u8 n)] => some (UInt8.ofNat n.toNat)
  | _ => none
def bytesOf : List (List V) → Option (List UInt8)
  | [] => some []
  | r :: rs => match byteOf r, bytesOf rs with | some b, some l => some (b :: l) | _, _ => none
def rowsOf (hp : Hp) : AV → Option (List (List V))
  | .one (.v (.sl rows)) => some rows
  | .one (.full rows) => some rows
  | .one .nil => some []
  | .one (.ar i) => match hp[i]? with | some (some (.arr _ _ rows)) => some rows | _ => none
  | _ => none
def lenAV (hp : Hp) (v : AV) : Option Int :=
  match v with
  | .one (.v (.lit (.string s))) => some s.size
  | _ => (rowsOf hp v).map fun r => (r.length : Int)
def convAV (P : Program) (src dst : Option TI) (hp : Hp) (v : AV) : Option AV :=
  match src.map TI.sh, dst.map TI.sh, v with
  | some _, some (.int k), .one (.v (.lit (.int _ n))) => some (.one (.v (.lit (.int k (k.wrap n)))))
  | some .string, some .string, .one (.v (.lit (.string s))) => some (.one (.v (.lit (.string s))))
  | some (.slice e), some .string, v => match (tiOf P e).map TI.sh with
    | some (.int .u8) => ((rowsOf hp v).bind bytesOf).map fun l => .one (.v (.lit (.string ⟨l.toArray⟩)))
    | _ => none
  | _, _, _ => none
def mkAV (i : TI) (cs : List C) : Option AV :=
  if cs.length = i.size then
    if i.isAgg then some (.agg cs) else match cs with | [c] => some (.one c) | _ => none
  else none
def loadAV (i : TI) (hp : Hp) (a : AV) : Option AV :=
  match a with
  | .one (.ptr b off) => match hp[b]? with
    | some (some (.box _ cs)) => mkAV i ((cs.drop off).take i.size)
    | _ => none
  | .one (.eptr b r k off) => match hp[b]? with
    | some (some (.arr _ k' rows)) => if k' = k then match rows[r]? with | some row => mkAV i (((row.drop off).take i.size).map .v) | none => none else none
    | some (some (.arj _ k' _ rows)) => if k' = k then match rows[r]? with | some row => mkAV i (((row.drop off).take i.size).map .v) | none => none else none
    | _ => none
  | .one (.vptr cs) => mkAV i ((cs.take i.size).map .v)
  | _ => none
def fieldAddrAV (i : TI) (f : Nat) (a : AV) : Option AV :=
  match i.sh with
  | .struct fs => match fs[f]? with
    | some (_, o) => match a with
      | .one (.ptr b off) => some (.one (.ptr b (off + o)))
      | .one (.eptr b r k off) => some (.one (.eptr b r k (off + o)))
      | .one (.vptr cs) => some (.one (.vptr (cs.drop o)))
      | _ => none
    | none => none
  | _ => none
def fieldAV (P : Program) (i : TI) (f : Nat) (a : AV) : Option AV :=
  match i.sh with
  | .struct fs => match fs[f]? with
    | some (t, o) => match a, tiOf P t with
      | .agg cs, some j => mkAV j ((cs.drop o).take j.size)
      | _, _ => none
    | none => none
  | _ => none
def intOfAV : AV → Option Int
  | .one (.v (.lit (.int _ n))) => some n
  | _ => none
def indexAddrAV (P : Program) (i : TI) (hp : Hp) (a : AV) (n : Int) : Option (Prop × AV) :=
  match i.sh with
  | .slice e => match tiOf P e with
    | some j => match a with
      | .one (.ar b) => match hp[b]? with
        | some (some (.arr _ k rows)) => if k = j.size then some (0 ≤ n ∧ n < rows.length, .one (.eptr b n.toNat k 0)) else none
        | _ => none
      | .one (.sub b k off len _) => match hp[b]? with
        | some (some (.arj _ k' _ rows)) => if k = j.size ∧ k' = k then some (0 ≤ n ∧ n < len ∧ off + len ≤ rows.length, .one (.eptr b (off + n.toNat) k 0)) else none
        | _ => none
      | .one (.v (.sl rows)) => match rows[n.toNat]? with | some row => if row.length = j.size then some (0 ≤ n, .one (.vptr row)) else none | none => none
      | .one (.full rows) => match rows[n.toNat]? with | some row => if row.length = j.size then some (0 ≤ n, .one (.vptr row)) else none | none => none
      | _ => none
    | none => none
  | .array m e => match tiOf P e with
    | some j => match a with
      | .one (.ptr b off) => some (0 ≤ n ∧ n < m, .one (.ptr b (off + n.toNat * j.size)))
      | .one (.vptr cs) => some (0 ≤ n ∧ n < m, .one (.vptr (cs.drop (n.toNat * j.size))))
      | _ => none
    | none => none
  | _ => none
def indexAV (P : Program) (i : TI) (a : AV) (n : Int) : Option (Prop × AV) :=
  match i.sh, a with
  | .string, .one (.v (.lit (.string s))) => some (0 ≤ n ∧ n < s.size, .one (.v (.lit (.int .u8 (byteAt s n.toNat)))))
  | .array m e, .agg cs => match tiOf P e with
    | some j => (mkAV j ((cs.drop (n.toNat * j.size)).take j.size)).map fun v => (0 ≤ n ∧ n < m, v)
    | none => none
  | _, _ => none
def UL (k : Nat) (rows : List (List V)) : Prop := ∀ row ∈ rows, row.length = k
def boundAV (d : Int) : Option AV → Option Int
  | none => some d
  | some v => intOfAV v
def sliceRows (k : Nat) (rows : List (List V)) (lo hi mx : Option AV) : Option (Prop × AV) :=
  match boundAV 0 lo, boundAV rows.length hi with
  | some l, some h => match mx with
    | none => some (UL k rows ∧ 0 ≤ l ∧ l ≤ h ∧ h ≤ rows.length, .one (.v (.sl ((rows.take h.toNat).drop l.toNat))))
    | some m => match intOfAV m, hi with
      | some m, some _ => some (UL k rows ∧ 0 ≤ l ∧ l ≤ h ∧ h = m ∧ m ≤ rows.length, .one (.full ((rows.take h.toNat).drop l.toNat)))
      | _, _ => none
  | _, _ => none
def sliceSub (i k off len c : Nat) (lo hi mx : Option AV) : Option (Prop × AV) :=
  match boundAV 0 lo, boundAV len hi with
  | some l, some h => match mx with
    | none => some (0 ≤ l ∧ l ≤ h ∧ off + h ≤ c, .one (.sub i k (off + l.toNat) (h.toNat - l.toNat) c))
    | some m => match intOfAV m, hi with
      | some m, some _ => some (0 ≤ l ∧ l ≤ h ∧ h ≤ m ∧ off + m ≤ c, .any)
      | _, _ => none
  | _, _ => none
def sliceAV (P : Program) (i : TI) (a : AV) (lo hi mx : Option AV) : Option (Prop × AV) :=
  match i.sh with
  | .string => match a, mx with
    | .one (.v (.lit (.string s))), none => match boundAV 0 lo, boundAV s.size hi with
      | some l, some h => some (0 ≤ l ∧ l ≤ h ∧ h ≤ s.size, .one (.v (.lit (.string (s.extract l.toNat h.toNat)))))
      | _, _ => none
    | _, _ => none
  | .slice e => match tiOf P e with
    | some j => match a with
      | .one (.v (.sl rows)) => sliceRows j.size rows lo hi mx
      | .one (.full rows) => sliceRows j.size rows lo hi mx
      | .one .nil => sliceRows j.size [] lo hi mx
      | .one (.sub i' k off len c) => if k = j.size then sliceSub i' k off len c lo hi mx else none
      | _ => none
    | none => none
  | _ => none
def minmaxI (isMax : Bool) : List AV → Option AV
  | [.one (.v (.lit (.int k a))), .one (.v (.lit (.int _ b)))] => some (.one (.v (.lit (.int k (if isMax then (if a < b then b else a) else (if b < a then b else a))))))
  | _ => none
def avC : AV → Option C
  | .one c => some c
  | _ => none
def avCs : List AV → Option (List C)
  | [] => some []
  | v :: r => match avC v, avCs r with | some c, some cs => some (c :: cs) | _, _ => none
def cellsAV : AV → Option (List C)
  | .one c => some [c]
  | .agg cs => some cs
  | _ => none
def buildAV (i : TI) (place : Nat → Option (Nat × Nat)) : List C → List (Nat × AV) → Option (List C)
  | cs, [] => some cs
  | cs, (f, v) :: r => match place f, cellsAV v with
    | some (o, k), some xs => if xs.length = k ∧ o + k ≤ cs.length then buildAV i place (cs.take o ++ xs ++ cs.drop (o + k)) r else none
    | _, _ => none
def placesOf (P : Program) (i : TI) (f : Nat) : Option (Nat × Nat) :=
  match i.sh with
  | .struct fs => match fs[f]? with
    | some (t, o) => match tiOf P t with | some j => some (o, j.size) | none => none
    | none => none
  | .array _ e => match tiOf P e with | some j => some (f * j.size, j.size) | none => none
  | _ => none
def elemOk (P : Program) (i : TI) : Bool := match i.sh with | .array _ e => (tiOf P e).isSome | .struct _ => true | _ => false
def pureOp (P : Program) (hp : Hp) (ev : Operand → AV) : Op → Option (Prop × AV)
  | .move x | .assign x => some (True, ev x)
  | .load t a => match tiOf P t with | some i => (loadAV i hp (ev a)).map fun v => (True, v) | none => none
  | .binOp op t x y _ => binAV (tiOf P t) op (ev x) (ev y)
  | .unOp op _ x => (unAV op (ev x)).map fun v => (True, v)
  | .convert src dst x => (convAV P (tiOf P src) (tiOf P dst) hp (ev x)).map fun v => (True, v)
  | .slice t x lo hi mx => match tiOf P t with | some i => sliceAV P i (ev x) (lo.map ev) (hi.map ev) (mx.map ev) | none => none
  | .fieldAddr t x f => match tiOf P t with | some i => (fieldAddrAV i f (ev x)).map fun v => (True, v) | none => none
  | .field t x f => match tiOf P t with | some i => (fieldAV P i f (ev x)).map fun v => (True, v) | none => none
  | .indexAddr t x ix => match tiOf P t, intOfAV (ev ix) with | some i, some n => indexAddrAV P i hp (ev x) n | _, _ => none
  | .index t x ix => match tiOf P t, intOfAV (ev ix) with | some i, some n => indexAV P i (ev x) n | _, _ => none
  | .extract t i => match ev t with | .tup l => (l[i]?).map fun v => (True, v) | _ => none
  | .nilCheck x => match ev x with
    | .one (.ptr i o) => some (True, .one (.ptr i o))
    | .one (.eptr i r k o) => some (True, .one (.eptr i r k o))
    | .one (.vptr cs) => some (True, .one (.vptr cs))
    | .fn f a b => some (True, .fn f a b)
    | _ => none
  | .makeFunc (.func f) first caps => match avCs (first.toList.map ev), avCs (caps.toList.map ev) with
    | some a, some b => some (True, .fn f a b)
    | _, _ => none
  | .build t parts => match tiOf P t with
    | some i => if elemOk P i then (buildAV i (placesOf P i) (i.zero.map vC) (parts.toList.map fun (k, x) => (k, ev x))).map fun cs => (True, .agg cs) else none
    | none => none
  | .lookup t x k okk => mpLook P hp t (ev x) (ev k) okk
  | .call { callee := .builtin .len, args := args, argTypes := ts } => match args.toList, ts.toList with
    | [x], [t] => match (tiOf P t).map TI.sh with
      | some .string => match ev x with | .one (.v (.lit (.string s))) => some (True, .one (.v (.lit (.int .i64 s.size)))) | _ => none
      | some (.slice _) => match ev x with
        | .one (.sub _ _ _ len _) => some (True, .one (.v (.lit (.int .i64 (len : Int)))))
        | v => (rowsOf hp v).map fun r => (True, .one (.v (.lit (.int .i64 (r.length : Int)))))
      | some (.array n _) => some (True, .one (.v (.lit (.int .i64 (n : Int)))))
      | none => mpLen P hp t (ev x)
      | _ => none
    | _, _ => none
  | .call { callee := .builtin .min, args := args, argTypes := _ } => (minmaxI false (args.toList.map ev)).map fun v => (True, v)
  | .call { callee := .builtin .max, args := args, argTypes := _ } => (minmaxI true (args.toList.map ev)).map fun v => (True, v)
  | _ => none
end Go.Proofs.AE
set_option linter.unusedVariables false
set_option linter.unusedSimpArgs false
namespace Go.Proofs.AE
open Go Go.RowKit
section
variable {P : Program} {n : Nat} {w : World} {ok : Nat → Prop} {μ : List MB} {s : S} {a : Act}
theorem oneCell_of_nice {x : Value} (h : niceB x = true) : x.oneCell' = true := by cases x <;> simp_all [niceB, Value.oneCell']
theorem cV_rel (x : Value) (h : niceB x = true) : CRel w ok μ (cV x) x := by
  unfold cV
  split <;> first
    | exact .nil
    | exact .v (.lit _ rfl)
    | exact .any (oneCell_of_nice h)
theorem cVs_rel : ∀ (l : List Value), l.all niceB = true → All2 (CRel w ok μ) (l.map cV) l
  | [], _ => .nil
  | x :: l, h => .cons (cV_rel x (by simp at h; exact h.1)) (cVs_rel l (by simp at h; simpa using h.2))
theorem cAV_rel (x : Value) : AVRel w ok μ (cAV x) x := by
  unfold cAV
  split
  · rename_i xs
    split
    · rename_i h; exact .agg (cVs_rel _ h)
    · exact .any
  all_goals first
    | exact .one .nil
    | exact .one (.v (.lit _ rfl))
    | exact .any
    | skip
  rename_i f first caps
  split
  · rename_i h
    obtain ⟨h1, h2⟩ := h
    obtain rfl := Array.eq_empty_of_size_eq_zero h1
    obtain rfl := Array.eq_empty_of_size_eq_zero h2
    exact .fn .nil .nil
  · exact .any
theorem St.eval (h : St n w ok μ s a) (x : Operand) : AVRel w ok μ (s.eval x) (a.eval x) := by
  cases x with
  | tmp t => exact h.fr t
  | const v => exact cAV_rel v
  | global g => exact h.gl g μ
  | func f => exact .fn .nil .nil
theorem TIs.size {t : TypeId} {i : TI} (h : TIs P t i) : ∃ j, P.info? t = some j ∧ j.size = i.size := by
  obtain ⟨j, hj, hs, _⟩ := h.info; exact ⟨j, hj, hs⟩
theorem run_sizeOf {t : TypeId} {i : TI} (h : TIs P t i) (w : World) : (sizeOf t).run P w = .ok i.size w := by
  obtain ⟨j, hj, hs⟩ := h.size
  simp [sizeOf, typeInfo, hj, hs]
theorem TIs.und_agg {t : TypeId} {i : TI} (h : TIs P t i) (w : World) : (isAgg t).run P w = .ok i.isAgg w := by
  obtain ⟨d, hd, hs⟩ := h.und
  simp only [Go.isAgg, Sem.run_bind, run_underlying hd, Result.andThen_ok]
  unfold TI.isAgg
  cases d <;> simp only [shOf] at hs <;> first
    | (have he := Option.some.inj hs; rw [← he]; rfl)
    | (split at hs <;> first
        | (have he := Option.some.inj hs; rw [← he]; rfl)
        | cases hs)
theorem TIs.struct {t : TypeId} {i : TI} {fs : List (Nat × Nat)} (h : TIs P t i) (hs : i.sh = .struct fs) :
    ∃ as : Array Field, P.underlying t = some (.struct as) ∧ fs = as.toList.map (fun f => (f.type, f.offset)) ∧ ∀ f ∈ as.toList, ∃ j, P.info? f.type = some j ∧ j.size ≠ 0 := by
  obtain ⟨d, hd, h1⟩ := h.und
  rw [hs] at h1
  cases d <;> simp only [shOf] at h1 <;> first
    | (cases h1; done)
    | (have he := Option.some.inj h1; cases he; done)
    | skip
  split at h1
  · rename_i as hall
    have he := Option.some.inj h1
    refine ⟨as, hd, (Sh.struct.inj he).symm, fun f hf => ?_⟩
    have h2 := List.all_eq_true.1 hall f hf
    split at h2
    · rename_i j hj; exact ⟨j, hj, by simpa using h2⟩
    · cases h2
  · cases h1
theorem TIs.slice {t e : TypeId} {i : TI} (h : TIs P t i) (hs : i.sh = .slice e) : P.underlying t = some (.slice e) := by
  obtain ⟨d, hd, h1⟩ := h.und
  rw [hs] at h1
  cases d <;> simp only [shOf] at h1 <;> first
    | exact hd
    | (have he := Option.some.inj h1; cases he; first | exact hd | done)
    | (split at h1 <;> first | (have he := Option.some.inj h1; cases he; done) | (cases h1; done))
theorem TIs.array {t e m : Nat} {i : TI} (h : TIs P t i) (hs : i.sh = .array m e) : P.underlying t = some (.array m e) := by
  obtain ⟨d, hd, h1⟩ := h.und
  rw [hs] at h1
  cases d <;> simp only [shOf] at h1 <;> first
    | exact hd
    | (have he := Option.some.inj h1; cases he; first | exact hd | done)
    | (split at h1 <;> first | (have he := Option.some.inj h1; cases he; done) | (cases h1; done))
theorem TIs.string {t : TypeId} {i : TI} (h : TIs P t i) (hs : i.sh = .string) : P.underlying t = some .string := by
  obtain ⟨d, hd, h1⟩ := h.und
  rw [hs] at h1
  cases d <;> simp only [shOf] at h1 <;> first
    | exact hd
    | (have he := Option.some.inj h1; cases he; first | exact hd | done)
    | (split at h1 <;> first | (have he := Option.some.inj h1; cases he; done) | (cases h1; done))
theorem TIs.bool {t : TypeId} {i : TI} (h : TIs P t i) (hs : i.sh = .bool) : P.underlying t = some .bool := by
  obtain ⟨d, hd, h1⟩ := h.und
  rw [hs] at h1
  cases d <;> simp only [shOf] at h1 <;> first
    | exact hd
    | (have he := Option.some.inj h1; cases he; first | exact hd | done)
    | (split at h1 <;> first | (have he := Option.some.inj h1; cases he; done) | (cases h1; done))
theorem TIs.int {t : TypeId} {i : TI} {k : IntKind} (h : TIs P t i) (hs : i.sh = .int k) : P.underlying t = some (.int k) := by
  obtain ⟨d, hd, h1⟩ := h.und
  rw [hs] at h1
  cases d <;> simp only [shOf] at h1 <;> first
    | exact hd
    | (have he := Option.some.inj h1; cases he; first | exact hd | done)
    | (split at h1 <;> first | (have he := Option.some.inj h1; cases he; done) | (cases h1; done))
theorem TIs.iface {t : TypeId} {i : TI} (h : TIs P t i) (hs : i.sh = .iface) : ∃ ms, P.underlying t = some (.interface ms) := by
  obtain ⟨d, hd, h1⟩ := h.und
  rw [hs] at h1
  cases d <;> simp only [shOf] at h1 <;> first
    | exact ⟨_, hd⟩
    | (have he := Option.some.inj h1; cases he; first | exact ⟨_, hd⟩ | done)
    | (split at h1 <;> first | (have he := Option.some.inj h1; cases he; done) | (cases h1; done))
theorem mkAV_rel {i : TI} {cs : List C} {xs : List Value} {v : AV} (hm : mkAV i cs = some v) (h : All2 (CRel w ok μ) cs xs) :
    (i.isAgg = true → AVRel w ok μ v (.agg xs.toArray)) ∧ (i.isAgg = false → ∃ x, xs = [x] ∧ AVRel w ok μ v x) ∧ xs.length = i.size := by
  unfold mkAV at hm
  split at hm
  · rename_i hl
    refine ⟨fun hg => ?_, fun hg => ?_, h.length ▸ hl⟩
    · rw [if_pos hg] at hm; cases hm; exact .agg h
    · rw [hg] at hm
      simp only [Bool.false_eq_true, if_false] at hm
      split at hm
      · cases hm
        cases h with
        | cons h1 h2 => cases h2; exact ⟨_, rfl, .one h1⟩
      · cases hm
  · cases hm
theorem run_load_cells {t : TypeId} {i : TI} (hi : TIs P t i) {ad : Addr} {xs : List Value} (hl : xs.length = i.size)
    (h : ∀ (j : Nat) x, xs[j]? = some x → w.cell? (ad.add j) = some x) :
    (loadVar t ad).run P w = .ok (if i.isAgg then .agg xs.toArray else xs.getD 0 undef) w ∨ (i.isAgg = false ∧ xs.length ≠ 1) := by
  by_cases hg : i.isAgg = true
  · left
    have h1 := run_loadCells_list (P := P) (w := w) ad xs h
    simp only [loadVar, Sem.run_bind, hi.und_agg, Result.andThen_ok, hg, if_true, run_sizeOf hi, ← hl, h1, Sem.run_pure]
  · have hg' : i.isAgg = false := by simpa using hg
    by_cases h1 : xs.length = 1
    · left
      match xs, h1 with
      | [x], _ =>
        have hc := h 0 x rfl
        simp only [Addr.add, if_true] at hc
        simp [loadVar, hi.und_agg, hg', hc]
    · right; exact ⟨hg', h1⟩
theorem flatten_get {α : Type} {k : Nat} : ∀ {rows : List (List α)} {r : Nat} {row : List α}, (∀ x ∈ rows, x.length = k) → rows[r]? = some row → ∀ j, j < k → rows.flatten[r * k + j]? = row[j]?
  | [], r, row, _, h, _, _ => by simp at h
  | x :: rows, 0, row, hk, h, j, hj => by
    simp at h; subst h
    have hx := hk x (by simp)
    simp [List.getElem?_append, hx, hj]
  | x :: rows, r + 1, row, hk, h, j, hj => by
    have hx := hk x (by simp)
    have h1 : rows[r]? = some row := by simpa using h
    have ih := flatten_get (fun y hy => hk y (by simp [hy])) h1 j hj
    simp only [List.flatten_cons, List.getElem?_append]
    rw [if_neg (by rw [hx]; have : k ≤ (r + 1) * k := Nat.le_mul_of_pos_left k (by omega); omega), hx, ← ih]
    congr 1
    rw [Nat.add_mul]; omega
theorem map_v_rel {l : List V} {xs : List Value} (h : All2 (VRel w ok) l xs) : All2 (CRel w ok μ) (l.map .v) xs := All2.map_left (h.mono fun _ _ h => .v h)
theorem loadAV_cells {i : TI} {v r : AV} {x : Value} (hr : HR w ok μ s.hp) (hl : loadAV i s.hp v = some r) (hv : AVRel w ok μ v x) :
    ∃ (ad : Addr) (cs : List C) (xs : List Value), x = .pointer (some ad) ∧ ad.spot = none ∧ mkAV i cs = some r ∧ All2 (CRel w ok μ) cs xs ∧ ∀ (j : Nat) y, xs[j]? = some y → w.cell? (ad.add j) = some y := by
  unfold loadAV at hl
  split at hl
  · rename_i b off
    split at hl
    · rename_i t cs hb
      obtain ⟨m, hm, hbr⟩ := hr.rel _ _ hb
      cases hv with
      | one hc =>
        cases hc with
        | ptr _ hμ =>
          rw [hμ] at hm; cases hm
          obtain ⟨xs, hh, hall⟩ := hbr
          refine ⟨_, _, _, rfl, rfl, hl, (hall.drop off).take i.size, ?_⟩
          intro j y hy
          rw [List.getElem?_take] at hy
          split at hy
          · rw [List.getElem?_drop] at hy
            rw [Addr.add_lit, cell_of_row w _ _ _ _ _ hh]
            simpa using hy
          · cases hy
    · cases hl
  · rename_i b r' k off
    split at hl
    · rename_i e k' rows hb
      split at hl
      · rename_i hk
        subst hk
        split at hl
        · rename_i row hrow
          obtain ⟨m, hm, hbr⟩ := hr.rel _ _ hb
          cases hv with
          | one hc =>
            cases hc with
            | eptr _ _ _ hμ =>
              rw [hμ] at hm; cases hm
              obtain ⟨xs, hown, hall, hk⟩ := hbr
              have hmem := List.mem_of_getElem? hrow
              have hrl := hk row hmem
              have hget : ∀ j, j < k' → xs[r' * k' + j]? = ((xs.drop (r' * k')).take k')[j]? := by
                intro j hj; rw [List.getElem?_take, if_pos hj, List.getElem?_drop]
              have hrow2 : All2 (VRel w ok) row ((xs.drop (r' * k')).take k') := by
                have h1 := (hall.drop (r' * k')).take k'
                have : (rows.flatten.drop (r' * k')).take k' = row := by
                  apply List.ext_getElem?
                  intro j
                  rw [List.getElem?_take]
                  split
                  · rename_i hj; rw [List.getElem?_drop, flatten_get hk hrow j hj]
                  · rw [List.getElem?_eq_none (by omega)]
                rwa [this] at h1
              refine ⟨_, _, _, rfl, rfl, hl, map_v_rel ((hrow2.drop off).take i.size), ?_⟩
              intro j y hy
              rw [List.getElem?_take] at hy
              split at hy
              · rw [List.getElem?_drop, List.getElem?_take] at hy
                split at hy
                · rw [List.getElem?_drop] at hy
                  rw [Addr.add_lit]
                  have h2 := hown.cells (g := _) rfl (r' * k' + (off + j)) y hy
                  rw [Addr.add_lit] at h2
                  simpa [Nat.add_assoc] using h2
                · cases hy
              · cases hy
        · cases hl
      · cases hl
    · rename_i e k' cc rows hb
      split at hl
      · rename_i hk
        subst hk
        split at hl
        · rename_i row hrow
          obtain ⟨m, hm, hbr⟩ := hr.rel _ _ hb
          cases hv with
          | one hc =>
            cases hc with
            | eptr _ _ _ hμ =>
              rw [hμ] at hm; cases hm
              obtain ⟨_, hk, hbr⟩ := hbr
              rcases hbr with ⟨hx, _⟩ | ⟨g', n', cur, heq, hg, hrc, hcm, hcs, hall⟩
              · cases hx
              cases heq
              obtain ⟨xs, hxs⟩ : ∃ xs, cur.toList.take (rows.length * k') = xs := ⟨_, rfl⟩
              rw [hxs] at hall
              have hmem := List.mem_of_getElem? hrow
              have hrl := hk row hmem
              have hget : ∀ j, j < k' → xs[r' * k' + j]? = ((xs.drop (r' * k')).take k')[j]? := by
                intro j hj; rw [List.getElem?_take, if_pos hj, List.getElem?_drop]
              have hrow2 : All2 (VRel w ok) row ((xs.drop (r' * k')).take k') := by
                have h1 := (hall.drop (r' * k')).take k'
                have : (rows.flatten.drop (r' * k')).take k' = row := by
                  apply List.ext_getElem?
                  intro j
                  rw [List.getElem?_take]
                  split
                  · rename_i hj; rw [List.getElem?_drop, flatten_get hk hrow j hj]
                  · rw [List.getElem?_eq_none (by omega)]
                rwa [this] at h1
              refine ⟨_, _, _, rfl, rfl, hl, map_v_rel ((hrow2.drop off).take i.size), ?_⟩
              intro j y hy
              rw [List.getElem?_take] at hy
              split at hy
              · rw [List.getElem?_drop, List.getElem?_take] at hy
                split at hy
                · rw [List.getElem?_drop] at hy
                  rw [Addr.add_lit]
                  rw [cell_of_row w _ _ _ _ _ hg]
                  rw [← hxs, List.getElem?_take] at hy
                  split at hy
                  · rw [Nat.add_assoc]; simpa using hy
                  · cases hy
                · cases hy
              · cases hy
        · cases hl
      · cases hl
    · cases hl
  · rename_i cs
    cases hv with
    | one hc =>
      cases hc with
      | vptr b off cv hok hcell hrel =>
        have hall : All2 (VRel w ok) cs ((List.range cs.length).map cv) := by
          refine All2.of_get (by simp) ?_
          intro j v y hj hy
          have hjl : j < cs.length := by
            rcases Nat.lt_or_ge j cs.length with h' | h'
            · exact h'
            · simp [List.getElem?_eq_none h'] at hj
          simp [List.getElem?_map, List.getElem?_range hjl] at hy
          subst hy
          exact hrel j v hj
        refine ⟨_, _, _, rfl, rfl, hl, map_v_rel (hall.take i.size), ?_⟩
        intro j y hy
        rw [List.getElem?_take] at hy
        split at hy
        · by_cases hjl : j < cs.length
          · simp [List.getElem?_map, List.getElem?_range hjl] at hy
            subst hy
            rw [Addr.add_lit]
            exact hcell j _ (List.getElem?_eq_getElem hjl)
          · rw [List.getElem?_eq_none (by simp; omega)] at hy; cases hy
        · cases hy
  · cases hl
theorem load_sound {t : TypeId} {i : TI} {v r : AV} {x : Value} (hr : HR w ok μ s.hp) (hi : tiOf P t = some i) (hl : loadAV i s.hp v = some r) (hv : AVRel w ok μ v x) :
    ∃ y, (Instr.loadAt t x).run P w = .ok y w ∧ AVRel w ok μ r y := by
  have hti := tiOf_spec hi
  obtain ⟨ad, cs, xs, rfl, hspot, hm, hall, hcell⟩ := loadAV_cells hr hl hv
  obtain ⟨h1, h2, h3⟩ := mkAV_rel hm hall
  simp only [Instr.loadAt, Instr.sureAddr, Sem.run_bind, Sem.run_pure, Result.andThen_ok]
  rcases run_load_cells (P := P) hti h3 hcell with h | ⟨hg, hne⟩
  · rw [h]
    by_cases hg : i.isAgg = true
    · rw [if_pos hg]; exact ⟨_, rfl, h1 hg⟩
    · have hg' : i.isAgg = false := by simpa using hg
      obtain ⟨y, rfl, hy⟩ := h2 hg'
      rw [if_neg hg]; exact ⟨_, rfl, by simpa using hy⟩
  · obtain ⟨y, rfl, _⟩ := h2 hg; simp at hne
end
end Go.Proofs.AE
set_option linter.unusedVariables false
set_option linter.unusedSimpArgs false
namespace Go.Proofs.AE
open Go Go.RowKit
section
variable {P : Program} {n : Nat} {w : World} {ok : Nat → Prop} {μ : List MB} {s : S} {a : Act}
theorem run_binI (op : BinOp) (t : TypeId) (k k' : IntKind) (x y : Int) (h : (isShift op || k == k') = true) (hp : (binI op k x y).1) :
    (binOp op t (.int k x) (.int k' y)).run P w = .ok (binI op k x y).2 w := by
  cases op <;> simp only [isShift, Bool.true_or, Bool.false_or, beq_iff_eq] at h <;> (try subst h) <;> simp only [binI] at hp <;>
    first
    | (simp [binOp, Op.intArith, Op.intCmp, Op.intBits, binI, bitsV]; done)
    | (simp only [binOp, Op.shift]; simp [Int.not_lt.2 hp, binI]; done)
    | (simp only [binOp, Op.intDiv]; simp [hp, binI]; done)
theorem binI_rel (op : BinOp) (k : IntKind) (x y : Int) : (binI op k x y).2.oneCell' = true := by cases op <;> rfl
theorem toList_eq_data (a : ByteArray) : a.toList = a.data.toList := by rw [ByteArray.toList_eq]
theorem run_binS (op : BinOp) (t : TypeId) (x y : ByteArray) {p : Prop} {r : Value} (h : binS op x y = some (p, r)) (hp : p) :
    (binOp op t (.string x) (.string y)).run P w = .ok r w ∧ r.oneCell' = true := by
  have he : (x.data.toList == y.data.toList) = (x == y) := by rw [beq_toListBytes, toList_eq_data, toList_eq_data]
  cases op <;> simp only [binS] at h <;> cases h <;> simp only [binOp, Op.stringOp, toList_eq_data, he] <;> first
    | exact ⟨rfl, rfl⟩
    | (refine ⟨?_, rfl⟩; rw [if_neg (by have hm : IntKind.i64.max = 9223372036854775807 := rfl; rw [hm]; omega)]; rfl)
theorem eqGuard_lit (op : BinOp) (t : TypeId) (ox oy : Operand) {x y : Value} (h : ∀ cs ds, x = .agg cs → y = .agg ds → False) (h' : x = .nilIface → y = .nilIface → False) :
    (eqGuard op t ox oy x y).run P w = .ok () w := by
  unfold eqGuard
  split <;> first
    | rfl
    | (rw [if_neg (by simp)]
       split
       · exact (h' rfl rfl).elim
       · rename_i cs ds; exact (h cs ds rfl rfl).elim
       · rfl)
theorem run_equalIn_iface_nil {t u : TypeId} {v : Value} {ms : Array (String × TypeId)} (hu : P.underlying t = some (.interface ms)) (d : Nat) (w : World) :
    (Op.equalIn (d + 1) t (.iface u v) .nilIface).run P w = .ok false w := by
  simp [Op.equalIn, run_underlying hu]
theorem run_binV {t : TypeId} {op : BinOp} {x y : Value} {p : Prop} {r : Value} (h : binV ((tiOf P t).map TI.sh) op x y = some (p, r)) (hp : p) (ox oy : Operand) :
    ((do eqGuard op t ox oy x y; binOp op t x y : Sem Value)).run P w = .ok r w ∧ r.oneCell' = true := by
  have hg : (eqGuard op t ox oy x y).run P w = .ok () w := by
    refine eqGuard_lit _ _ _ _ ?_ ?_
    · rintro cs ds rfl rfl; simp [binV] at h
    · rintro rfl rfl; simp [binV] at h
  simp only [Sem.run_bind, hg, Result.andThen_ok]
  unfold binV at h
  split at h
  · split at h
    · rename_i k a k' b hk
      have he := Option.some.inj h
      have h1 : (binI op k a b).1 = p := by rw [he]
      have h2 : (binI op k a b).2 = r := by rw [he]
      rw [← h2]
      exact ⟨run_binI op t k k' a b hk (h1 ▸ hp), binI_rel op k a b⟩
    · cases h
  · exact run_binS _ _ _ _ h hp
  · split at h
    all_goals first | (cases h; done) | skip
    all_goals
      rename_i hs
      cases h
      obtain ⟨i, hi, hs'⟩ := Option.map_eq_some_iff.1 hs
      have hu := (tiOf_spec hi).bool hs'
      refine ⟨?_, rfl⟩
      simp [binOp, Op.equal, Op.maxDepth, run_equalIn_bool' w 9999 t _ _ hu]
  · cases h
  · split at h
    all_goals first | (cases h; done) | skip
    all_goals
      rename_i hs
      cases h
      obtain ⟨i, hi, hs'⟩ := Option.map_eq_some_iff.1 hs
      obtain ⟨ms, hu⟩ := (tiOf_spec hi).iface hs'
      refine ⟨?_, rfl⟩
      simp only [binOp, Op.equal, Op.maxDepth, Sem.run_bind, run_equalIn_iface_nil hu, Result.andThen_ok, Sem.run_pure, Bool.not_false]
  · cases h
end
end Go.Proofs.AE
set_option linter.unusedVariables false
set_option linter.unusedSimpArgs false
namespace Go.Proofs.AE
open Go Go.RowKit
section
variable {P : Program} {n : Nat} {w : World} {ok : Nat → Prop} {μ : List MB} {s : S} {a : Act}
def eqVals : List Value → List Value → Bool
  | [], [] => true
  | .int _ a :: r, .int _ b :: r' => (a == b) && eqVals r r'
  | .bool a :: r, .bool b :: r' => (a == b) && eqVals r r'
  | .string a :: r, .string b :: r' => (a == b) && eqVals r r'
  | _, _ => false
def kv2 : Sh → Value × Value → Prop
  | .int _, (.int k _, .int k' _) => k = k'
  | .bool, (.bool _, .bool _) => True
  | .string, (.string _, .string _) => True
  | _, _ => False
def Fit (l : List Sh) (xs ys : List Value) : Prop := xs.length = ys.length ∧ All2 kv2 l (xs.zip ys)
theorem eqCells_rel : ∀ {l : List Sh} {cs ds : List C} {xs ys : List Value} {b : Bool}, eqCells l cs ds = some b → All2 (CRel w ok μ) cs xs → All2 (CRel w ok μ) ds ys →
    b = eqVals xs ys ∧ Fit l xs ys
  | l, cs, ds, xs, ys, b, h, h1, h2 => by
    induction l generalizing cs ds xs ys b with
    | nil =>
      unfold eqCells at h
      split at h <;> first | (cases h; done) | skip
      all_goals first
        | (cases h; cases h1; cases h2; exact ⟨rfl, rfl, .nil⟩)
        | (simp_all; done)
    | cons q l ih =>
      unfold eqCells at h
      split at h
      · simp_all
      · rename_i e1
        obtain ⟨rfl, rfl⟩ := List.cons.inj e1
        cases h1 with | cons hc h1 =>
        cases h2 with | cons hd h2 =>
        split at h
        · rename_i hk; subst hk
          obtain ⟨b', hb', rfl⟩ := Option.map_eq_some_iff.1 h
          obtain ⟨rfl, hl, hs⟩ := ih _ _ _ _ _ hb' h1 h2
          cases hc with | v hc => cases hc with | lit _ _ =>
          cases hd with | v hd => cases hd with | lit _ _ =>
          exact ⟨rfl, by simp [hl], .cons rfl hs⟩
        · cases h
      · rename_i e1
        obtain ⟨rfl, rfl⟩ := List.cons.inj e1
        cases h1 with | cons hc h1 =>
        cases h2 with | cons hd h2 =>
        obtain ⟨b', hb', rfl⟩ := Option.map_eq_some_iff.1 h
        obtain ⟨rfl, hl, hs⟩ := ih _ _ _ _ _ hb' h1 h2
        cases hc with | v hc => cases hc with | lit _ _ =>
        cases hd with | v hd => cases hd with | lit _ _ =>
        exact ⟨rfl, by simp [hl], .cons trivial hs⟩
      · rename_i e1
        obtain ⟨rfl, rfl⟩ := List.cons.inj e1
        cases h1 with | cons hc h1 =>
        cases h2 with | cons hd h2 =>
        obtain ⟨b', hb', rfl⟩ := Option.map_eq_some_iff.1 h
        obtain ⟨rfl, hl, hs⟩ := ih _ _ _ _ _ hb' h1 h2
        cases hc with | v hc => cases hc with | lit _ _ =>
        cases hd with | v hd => cases hd with | lit _ _ =>
        exact ⟨rfl, by simp [hl], .cons trivial hs⟩
      · cases h
theorem Fit.split {l l' : List Sh} {xs ys : List Value} (h : Fit (l ++ l') xs ys) :
    Fit l (xs.take l.length) (ys.take l.length) ∧ Fit l' (xs.drop l.length) (ys.drop l.length) ∧ eqVals xs ys = (eqVals (xs.take l.length) (ys.take l.length) && eqVals (xs.drop l.length) (ys.drop l.length)) := by
  induction l generalizing xs ys with
  | nil => simpa [eqVals] using ⟨⟨rfl, .nil⟩, h⟩
  | cons q l ih =>
    obtain ⟨hl, h⟩ := h
    cases xs with
    | nil => cases h
    | cons x xs =>
    cases ys with
    | nil => cases h
    | cons y ys =>
    cases h with
    | cons hq ht =>
    obtain ⟨⟨a1, a2⟩, b, c⟩ := ih ⟨by simpa using hl, ht⟩
    refine ⟨⟨by simp at a1 ⊢; omega, .cons hq a2⟩, by simpa using b, ?_⟩
    cases x <;> cases y <;> (try (cases q <;> exact hq.elim)) <;> simp [eqVals, c, Bool.and_assoc]
def aggB (P : Program) (t : TypeId) : Bool := match P.underlying t with | some (.struct _) | some (.array _ _) => true | _ => false
def mkT (P : Program) (t : TypeId) (l : List Value) : Value := if aggB P t then .agg l.toArray else l.getD 0 undef
theorem run_isAgg {t : TypeId} {d : TypeDesc} (hd : P.underlying t = some d) (w : World) : (isAgg t).run P w = .ok (aggB P t) w := by
  unfold aggB Go.isAgg
  simp only [Sem.run_bind, run_underlying hd, Result.andThen_ok, hd]
  cases d <;> rfl
theorem run_part {t : TypeId} {d : TypeDesc} (hd : P.underlying t = some d) {m : Nat} (hz : (P.info? t).map (·.size) = some m) (hm : aggB P t = false → m = 1) {cs : Array Value} {off : Nat} (h : off + m ≤ cs.size) (w : World) :
    (part t cs off).run P w = .ok (mkT P t ((cs.toList.drop off).take m)) w := by
  unfold part
  simp only [Sem.run_bind, run_isAgg hd, Result.andThen_ok, mkT]
  cases hb : aggB P t with
  | true =>
    obtain ⟨i, hi, rfl⟩ := Option.map_eq_some_iff.1 hz
    simp only [sizeOf, typeInfo, if_true, Sem.run_bind, run_program, Result.andThen_ok, hi, Sem.run_pure]
    congr 2
    apply Array.ext'
    simp
  | false =>
    have := hm hb; subst this
    simp only [Bool.false_eq_true, if_false]
    have hx : cs[off]? = some cs[off] := Array.getElem?_eq_getElem (by omega)
    rw [hx]
    simp only [Sem.run_pure]
    congr 1
    rw [List.getD_eq_getElem?_getD, List.getElem?_take, if_pos (by omega), List.getElem?_drop]
    simp [hx]
theorem flatB_len {d : Nat} {t : TypeId} {l : List Sh} (h : flatB P d t = some l) : ∃ dd, P.underlying t = some dd ∧ (aggB P t = false → l.length = 1) := by
  cases d with
  | zero => cases h
  | succ d =>
    unfold flatB at h
    split at h
    · rename_i hu; cases h; exact ⟨_, hu, fun _ => rfl⟩
    · rename_i hu; cases h; exact ⟨_, hu, fun _ => rfl⟩
    · rename_i hu; cases h; exact ⟨_, hu, fun _ => rfl⟩
    · rename_i hu; exact ⟨_, hu, fun hb => by simp [aggB, hu] at hb⟩
    · cases h
theorem run_flat : ∀ (d : Nat) (t : TypeId) (l : List Sh) (e : Nat), flatB P d t = some l → ∀ (xs ys : List Value) (w : World), Fit l xs ys →
    (Op.equalIn (d + e) t (mkT P t xs) (mkT P t ys)).run P w = .ok (eqVals xs ys) w := by
  intro d
  induction d with
  | zero => intro t l e h; cases h
  | succ d ih =>
    intro t l e h xs ys w hf
    have hde : d + 1 + e = (d + e) + 1 := by omega
    rw [hde]
    unfold flatB at h
    split at h
    · rename_i hu
      cases h
      obtain ⟨hl, hf⟩ := hf
      have hb : aggB P t = false := by simp [aggB, hu]
      match xs, ys, hf with
      | x :: xs, y :: ys, .cons hq ht =>
        have h0 : xs = [] ∧ ys = [] := by cases xs <;> cases ys <;> first | exact ⟨rfl, rfl⟩ | (simp at hl; done) | (cases ht)
        obtain ⟨rfl, rfl⟩ := h0
        cases x <;> cases y <;> first | exact hq.elim | skip
        simp [mkT, hb, eqVals, run_equalIn_bool' w _ t _ _ hu]
    · rename_i k hu
      cases h
      obtain ⟨hl, hf⟩ := hf
      have hb : aggB P t = false := by simp [aggB, hu]
      match xs, ys, hf with
      | x :: xs, y :: ys, .cons hq ht =>
        have h0 : xs = [] ∧ ys = [] := by cases xs <;> cases ys <;> first | exact ⟨rfl, rfl⟩ | (simp at hl; done) | (cases ht)
        obtain ⟨rfl, rfl⟩ := h0
        cases x <;> cases y <;> first | exact hq.elim | skip
        cases hq
        simp [mkT, hb, eqVals, run_equalIn_int w _ t _ _ _ _ hu]
    · rename_i hu
      cases h
      obtain ⟨hl, hf⟩ := hf
      have hb : aggB P t = false := by simp [aggB, hu]
      match xs, ys, hf with
      | x :: xs, y :: ys, .cons hq ht =>
        have h0 : xs = [] ∧ ys = [] := by cases xs <;> cases ys <;> first | exact ⟨rfl, rfl⟩ | (simp at hl; done) | (cases ht)
        obtain ⟨rfl, rfl⟩ := h0
        cases x <;> cases y <;> first | exact hq.elim | skip
        simp [mkT, hb, eqVals, run_equalIn_string w _ t _ _ hu, beq_toListBytes]
    · rename_i fs hu
      split at h
      · cases h
      · rename_i hst
        have hb : aggB P t = true := by simp [aggB, hu]
        have hfo : P.fieldsOf t = fs := by simp [Program.fieldsOf, hu]
        simp only [mkT, hb, if_true]
        rw [run_equalIn_agg w (d + e) t _ _ (by rw [hfo]; exact hu) (by simpa using hst), hfo]
        have key : ∀ (fs : List Field) (acc l : List Sh) (xs ys : List Value), flatFs (flatB P d) (fun u => (P.info? u).map (·.size)) fs acc = some l → Fit l xs ys →
            acc.length ≤ l.length ∧ ∃ l', l = acc ++ l' ∧ (Op.eqFields (d + e) xs.toArray ys.toArray fs).run P w = .ok (eqVals (xs.drop acc.length) (ys.drop acc.length)) w := by
          intro fs
          induction fs with
          | nil =>
            intro acc l xs ys h hf
            simp only [flatFs] at h; cases h
            refine ⟨Nat.le_refl _, [], by simp, ?_⟩
            have hlx : xs.length = acc.length := by
              have := hf.2.length; rw [List.length_zip, hf.1, Nat.min_self] at this; rw [hf.1]; omega
            have hly : ys.length = acc.length := hf.1 ▸ hlx
            simp [Op.eqFields, ← hlx]
            rw [hlx, ← hly]; simp [eqVals]
          | cons f fs ihf =>
            intro acc l xs ys h hf
            simp only [flatFs] at h
            split at h
            · rename_i hc
              obtain ⟨hname, hoff⟩ := hc
              split at h
              · rename_i m hm
                split at h
                · rename_i hz
                  obtain ⟨hle, l', hl', hrun⟩ := ihf (acc ++ m) l xs ys h hf
                  refine ⟨by rw [List.length_append] at hle; omega, m ++ l', by rw [hl', List.append_assoc], ?_⟩
                  obtain ⟨dd, hdd, hone⟩ := flatB_len hm
                  have hlen : l.length = xs.length := by
                    have := hf.2.length; rw [List.length_zip, hf.1, Nat.min_self] at this; rw [hf.1]; exact this
                  have hlen2 : l.length = ys.length := hf.1 ▸ hlen
                  have hsz : acc.length + m.length ≤ xs.length := by rw [← hlen, hl']; simp
                  rw [hl', List.append_assoc] at hf
                  obtain ⟨_, hf2, _⟩ := hf.split
                  obtain ⟨hf3, hf4, he⟩ := hf2.split
                  have hx := run_part (P := P) hdd hz hone (cs := xs.toArray) (off := f.offset) (by rw [hoff]; simpa using hsz) w
                  have hy := run_part (P := P) hdd hz hone (cs := ys.toArray) (off := f.offset) (by rw [hoff]; have := hsz; rw [hf.1] at this; simpa using this) w
                  rw [hoff] at hx hy
                  simp only at hx hy
                  have hr := ih f.type m e hm ((xs.drop acc.length).take m.length) ((ys.drop acc.length).take m.length) w hf3
                  simp only [Op.eqFields]
                  rw [if_pos hname]
                  simp only [Sem.run_bind, hoff, hx, hy, Result.andThen_ok, hr]
                  rw [he]
                  rw [List.length_append] at hrun
                  cases eqVals ((xs.drop acc.length).take m.length) ((ys.drop acc.length).take m.length) with
                  | true =>
                    simp only [Bool.not_true, Bool.false_eq_true, if_false, Bool.true_and, List.drop_drop]
                    exact hrun
                  | false => simp
                · cases h
              · cases h
            · cases h
        obtain ⟨_, l', hl', hrun⟩ := key fs.toList [] l xs ys h hf
        simpa using hrun
    · cases h
end
end Go.Proofs.AE
set_option linter.unusedVariables false
set_option linter.unusedSimpArgs false
namespace Go.Proofs.AE
open Go Go.RowKit
section
variable {P : Program} {n : Nat} {w : World} {ok : Nat → Prop} {μ : List MB} {hp : Hp}
theorem intOfAV_rel {v : AV} {x : Value} {m : Int} (h : intOfAV v = some m) (hv : AVRel w ok μ v x) : ∃ k, x = .int k m := by
  unfold intOfAV at h
  split at h
  · cases h; cases hv with | one hc => cases hc with | v hc => cases hc with | lit _ _ => exact ⟨_, rfl⟩
  · cases h
theorem lit_rel {y x : Value} (hv : AVRel w ok μ (.one (.v (.lit y))) x) : x = y := by
  cases hv with | one hc => cases hc with | v hc => cases hc with | lit _ _ => rfl
theorem avlit {x : Value} (h : x.oneCell' = true) : AVRel w ok μ (.one (.v (.lit x))) x := .one (.v (.lit x h))
def RowsAt (w : World) (ok : Nat → Prop) (rows : List (List V)) (x : Value) : Prop :=
  (x = .slice none 0 0 ∧ rows = []) ∨
  ∃ (a : Addr) (cap : Nat), x = .slice (some a) rows.length cap ∧ rows.length ≤ cap ∧ cap ≤ maxLen ∧
    ∀ (i : Nat) row (j : Nat) v, rows[i]? = some row → row[j]? = some v → ∃ y, w.cell? (a.add (i * row.length + j)) = some y ∧ VRel w ok v y
theorem RowsAt.of_v {rows : List (List V)} {x : Value} (h : VRel w ok (.sl rows) x) : RowsAt w ok rows x := by
  cases h with
  | nil => exact .inl ⟨rfl, rfl⟩
  | emp a cap hmax => exact .inr ⟨a, cap, rfl, Nat.zero_le _, hmax, fun i row j v hi hj => by simp at hi⟩
  | sl _ b off cap cv hok hcap hmax hc hv => exact .inr ⟨⟨b, off, none⟩, cap, rfl, hcap, hmax, fun i row j v hi hj => ⟨_, by rw [Addr.add_lit]; exact hc i row j v hi hj, hv i row j v hi hj⟩⟩
theorem arr_rows {e : TypeId} {k : Nat} {rows : List (List V)} {x : Value} (h : BRel w ok μ (.arr e k rows) (.arr x)) : (x = .slice none 0 0 ∧ rows = []) ∨
    ∃ b off cap, x = .slice (some ⟨b, off, none⟩) rows.length cap ∧ rows.length ≤ cap ∧ cap ≤ maxLen ∧
    ∀ (i : Nat) row (j : Nat) v, rows[i]? = some row → row[j]? = some v → ∃ y, w.cell? ⟨b, off + (i * row.length + j), none⟩ = some y ∧ VRel w ok v y := by
  obtain ⟨xs, hown, hall, hk⟩ := h
  rcases hown.2 with ⟨rfl, hn⟩ | ⟨g, cap, cur, rfl, _, hg, hnc, hcm, hcs, htake⟩
  · exact .inl ⟨rfl, List.eq_nil_of_length_eq_zero hn⟩
  · refine .inr ⟨g, 0, cap, rfl, hnc, hcm, ?_⟩
    intro i row j v hi hj
    have hrl := hk row (List.mem_of_getElem? hi)
    have hjl : j < k := by
      rcases Nat.lt_or_ge j k with h' | h'
      · exact h'
      · rw [List.getElem?_eq_none (by omega)] at hj; cases hj
    have hf := flatten_get hk hi j hjl
    rw [hj] at hf
    obtain ⟨y, hy, hr⟩ := hall.get hf
    have hc := hown.cells (g := g) rfl (i * k + j) y hy
    rw [Addr.add_lit] at hc
    exact ⟨y, by rw [hrl]; simpa using hc, hr⟩
theorem rowsOf_rel {v : AV} {rows : List (List V)} {x : Value} (hr : HR w ok μ hp) (h : rowsOf hp v = some rows) (hv : AVRel w ok μ v x) : RowsAt w ok rows x := by
  unfold rowsOf at h
  split at h
  · cases h; cases hv with | one hc => cases hc with | v hc => exact .of_v hc
  · cases h; cases hv with | one hc => cases hc with | full hc => exact .of_v hc
  · cases h; cases hv with | one hc => cases hc with | nil => exact .inl ⟨rfl, rfl⟩
  · rename_i i
    split at h
    · rename_i e k rows' hb
      cases h
      obtain ⟨m, hm, hbr⟩ := hr.rel _ _ hb
      cases hv with | one hc => cases hc with | ar hμ _ =>
      rw [hμ] at hm; cases hm
      rcases arr_rows hbr with ⟨h1, h2⟩ | ⟨b, off, cap, h1, h2, h3, h4⟩
      · exact .inl ⟨h1, h2⟩
      · exact .inr ⟨⟨b, off, none⟩, cap, h1, h2, h3, fun i row j v hi hj => by rw [Addr.add_lit]; exact h4 i row j v hi hj⟩
    · cases h
  · cases h
theorem RowsAt.len {rows : List (List V)} {x : Value} (h : RowsAt w ok rows x) : ∃ a cap, x = .slice a rows.length cap := by
  rcases h with ⟨rfl, rfl⟩ | ⟨a, cap, rfl, _⟩
  · exact ⟨_, _, rfl⟩
  · exact ⟨_, _, rfl⟩
theorem run_convert_bytes_at {P : Program} (w : World) (src e : TypeId) (hs : P.underlying src = some (.slice e)) (he : P.underlying e = some (.int .u8)) (a : Addr) (len cap : Nat) (xs : List Int) (hlen : xs.length = len)
    (hcell : ∀ i, i < len → w.cell? (a.add i) = some (.int .u8 (xs.getD i 0))) :
    ∀ dst, P.underlying dst = some .string → (convert src dst (.slice (some a) len cap)).run P w = .ok (.string (strOfNums xs)) w := by
  intro dst hd
  have hl : (loadCells a len).run P w = .ok (xs.map (Value.int .u8)).toArray w := by
    have := run_loadCells_list (P := P) w a (xs.map (Value.int .u8)) (fun j v hj => by
      have hjl : j < xs.length := by
        rcases Nat.lt_or_ge j xs.length with h | h
        · exact h
        · simp [List.getElem?_eq_none (show (xs.map (Value.int .u8)).length ≤ j by simpa using h)] at hj
      rw [hcell j (by omega)]
      simp [List.getElem?_eq_getElem hjl] at hj
      subst hj
      simp [List.getD, List.getElem?_eq_getElem hjl])
    simpa [hlen] using this
  rw [run_convert_bytes_string w src dst e _ len cap hs he hd, run_bytesToString w _ len cap xs hl, foldl_push_bytes]
  simp [strOfNums, ByteArray.empty, ByteArray.emptyWithCapacity]
  rfl
theorem byteOf_spec {l : List V} {b : UInt8} (h : byteOf l = some b) : ∃ m, l = [.lit (.int .u8 m)] ∧ b = UInt8.ofNat m.toNat := by
  unfold byteOf at h
  split at h
  · cases h; exact ⟨_, rfl, rfl⟩
  · cases h
theorem bytesOf_spec : ∀ {rows : List (List V)} {l : List UInt8}, bytesOf rows = some l → ∃ ns : List Int, rows = ns.map (fun m => [.lit (.int .u8 m)]) ∧ l = ns.map fun m => UInt8.ofNat m.toNat
  | [], l, h => by cases h; exact ⟨[], rfl, rfl⟩
  | r :: rs, l, h => by
    unfold bytesOf at h
    split at h
    · rename_i b l' hb hl
      cases h
      obtain ⟨m, rfl, rfl⟩ := byteOf_spec hb
      obtain ⟨ns, rfl, rfl⟩ := bytesOf_spec hl
      exact ⟨m :: ns, rfl, rfl⟩
    · cases h
theorem conv_sound {src dst : TypeId} {v r : AV} {x : Value} (hr : HR w ok μ hp) (h : convAV P (tiOf P src) (tiOf P dst) hp v = some r) (hv : AVRel w ok μ v x) :
    ∃ y, (convert src dst x).run P w = .ok y w ∧ AVRel w ok μ r y := by
  unfold convAV at h
  split at h
  · rename_i sh k k' m hs hd
    cases h
    obtain rfl := lit_rel hv
    obtain ⟨i, hi, _⟩ := Option.map_eq_some_iff.1 hs
    obtain ⟨j, hj, hj'⟩ := Option.map_eq_some_iff.1 hd
    obtain ⟨d, hd1, _⟩ := (tiOf_spec hi).und
    have hd2 := (tiOf_spec hj).int hj'
    refine ⟨_, ?_, avlit rfl⟩
    simp [convert, run_underlying hd1, run_underlying hd2, Conv.intToInt]
  · rename_i s hs hd
    cases h
    obtain rfl := lit_rel hv
    obtain ⟨i, hi, hi'⟩ := Option.map_eq_some_iff.1 hs
    obtain ⟨j, hj, hj'⟩ := Option.map_eq_some_iff.1 hd
    have hd1 := (tiOf_spec hi).string hi'
    have hd2 := (tiOf_spec hj).string hj'
    refine ⟨_, ?_, avlit rfl⟩
    simp [convert, run_underlying hd1, run_underlying hd2]
  · rename_i e hs hd
    split at h
    · rename_i he
      obtain ⟨l, hl, rfl⟩ := Option.map_eq_some_iff.1 h
      obtain ⟨rows, hrows, hbytes⟩ := Option.bind_eq_some_iff.1 hl
      obtain ⟨ns, rfl, rfl⟩ := bytesOf_spec hbytes
      obtain ⟨i, hi, hi'⟩ := Option.map_eq_some_iff.1 hs
      obtain ⟨j, hj, hj'⟩ := Option.map_eq_some_iff.1 hd
      obtain ⟨ie, hie, hie'⟩ := Option.map_eq_some_iff.1 he
      have hd1 := (tiOf_spec hi).slice hi'
      have hd2 := (tiOf_spec hj).string hj'
      have hd3 := (tiOf_spec hie).int hie'
      rcases rowsOf_rel hr hrows hv with ⟨rfl, hn⟩ | ⟨ad, cap, rfl, _, _, hc⟩
      · have : ns = [] := by simpa using hn
        subst this
        exact ⟨_, run_convert_bytes_nil w src e hd1 hd3 0 0 dst hd2, avlit rfl⟩
      · refine ⟨_, run_convert_bytes_at w src e hd1 hd3 ad _ cap ns (by simp) ?_ dst hd2, avlit rfl⟩
        intro i' hi'
        have hi2 : i' < ns.length := by simpa using hi'
        obtain ⟨y, hy, hyr⟩ := hc i' [.lit (.int .u8 ns[i'])] 0 (.lit (.int .u8 ns[i'])) (by simp [List.getElem?_eq_getElem hi2]) rfl
        cases hyr with | lit _ _ =>
        simp only [List.length_cons, List.length_nil, Nat.mul_one, Nat.add_zero, Nat.zero_add] at hy
        rw [hy]; simp [List.getD, List.getElem?_eq_getElem hi2]
    · cases h
  · cases h
theorem fieldAddr_sound {t : TypeId} {i : TI} {f : Nat} {v r : AV} {x : Value} (hi : tiOf P t = some i) (h : fieldAddrAV i f v = some r) (hv : AVRel w ok μ v x) :
    ∃ y, (Instr.fieldAt t x f).run P w = .ok y w ∧ AVRel w ok μ r y := by
  unfold fieldAddrAV at h
  split at h
  · rename_i fs hfs
    obtain ⟨as, hu, hmap, hsz⟩ := (tiOf_spec hi).struct hfs
    split at h
    · rename_i ft o hf
      rw [hmap, List.getElem?_map] at hf
      obtain ⟨fd, hfd, he⟩ := Option.map_eq_some_iff.1 hf
      cases he
      obtain ⟨j, hj, hjz⟩ := hsz fd (List.mem_of_getElem? hfd)
      have hfa : as[f]? = some fd := by simpa using hfd
      have run : ∀ ad : Addr, (Instr.fieldAt t (.pointer (some ad)) f).run P w = .ok (.pointer (some (ad.add fd.offset))) w := by
        intro ad
        simp [Instr.fieldAt, run_underlying hu, hfa, Instr.sureAddr, fieldPlace, sizeOf, typeInfo, hj, hjz]
      split at h
      · cases h
        cases hv with | one hc => cases hc with | ptr _ hμ =>
        refine ⟨_, run _, ?_⟩
        rw [Addr.add_lit]; exact .one (.ptr _ hμ)
      · cases h
        cases hv with | one hc => cases hc with | eptr _ _ _ hμ =>
        refine ⟨_, run _, ?_⟩
        rw [Addr.add_lit, Nat.add_assoc]; exact .one (.eptr _ _ _ hμ)
      · cases h
        cases hv with | one hc => cases hc with | vptr b off cv hok hcell hrel =>
        refine ⟨_, run _, ?_⟩
        rw [Addr.add_lit]
        refine .one (.vptr b _ (fun j => cv (fd.offset + j)) hok ?_ ?_)
        · intro j v hj
          rw [List.getElem?_drop] at hj
          have := hcell _ v hj
          rwa [← Nat.add_assoc] at this
        · intro j v hj
          rw [List.getElem?_drop] at hj
          exact hrel _ v hj
      · cases h
    · cases h
  · cases h
theorem field_sound {t : TypeId} {i : TI} {f : Nat} {v r : AV} {x : Value} (hi : tiOf P t = some i) (h : fieldAV P i f v = some r) (hv : AVRel w ok μ v x) :
    ∃ y, (Instr.field t x f).run P w = .ok y w ∧ AVRel w ok μ r y := by
  unfold fieldAV at h
  split at h
  · rename_i fs hfs
    obtain ⟨as, hu, hmap, hsz⟩ := (tiOf_spec hi).struct hfs
    split at h
    · rename_i ft o hf
      rw [hmap, List.getElem?_map] at hf
      obtain ⟨fd, hfd, he⟩ := Option.map_eq_some_iff.1 hf
      cases he
      have hfa : as[f]? = some fd := by simpa using hfd
      split at h
      · rename_i cs j hj
        have hj2 := tiOf_spec hj
        cases hv with
        | agg hall =>
          rename_i xs
          have hall2 := (hall.drop fd.offset).take j.size
          obtain ⟨h1, h2, h3⟩ := mkAV_rel h hall2
          have hle : fd.offset + j.size ≤ xs.size := by
            rw [List.length_take, List.length_drop, Array.length_toList] at h3
            have : 0 < j.size ∨ j.size = 0 := by omega
            rcases this with h' | h'
            · omega
            · obtain ⟨q, hq, hqz⟩ := hsz fd (List.mem_of_getElem? hfd)
              obtain ⟨q', hq', hs'⟩ := hj2.size
              rw [hq] at hq'; cases hq'; omega
          simp only [Instr.field, Sem.run_bind, run_underlying hu, Result.andThen_ok, hfa, asAgg, Sem.run_pure]
          simp only [part, Sem.run_bind, hj2.und_agg, Result.andThen_ok]
          by_cases hg : j.isAgg = true
          · refine ⟨_, ?_, h1 hg⟩
            simp only [hg, if_true, Sem.run_bind, run_sizeOf hj2, Result.andThen_ok, Sem.run_pure]
            congr 2
            apply Array.ext'
            simp [List.take_drop]
          · have hg' : j.isAgg = false := by simpa using hg
            obtain ⟨y, hy, hyr⟩ := h2 hg'
            refine ⟨y, ?_, hyr⟩
            simp only [hg', Bool.false_eq_true, if_false]
            have hone : j.size = 1 := by rw [← h3, hy]; rfl
            have : xs[fd.offset]? = some y := by
              have hz : (((xs.toList.drop fd.offset).take j.size))[0]? = some y := by rw [hy]; rfl
              rw [List.getElem?_take, if_pos (by omega), List.getElem?_drop] at hz
              simpa using hz
            rw [this]; rfl
      · cases h
    · cases h
  · cases h
end
end Go.Proofs.AE
set_option linter.unusedVariables false
set_option linter.unusedSimpArgs false
namespace Go.Proofs.AE
open Go Go.RowKit
section
variable {P : Program} {n : Nat} {w : World} {ok : Nat → Prop} {μ : List MB} {hp : Hp}
theorem row_vptr {rows : List (List V)} {x : Value} {i : Nat} {row : List V} (h : VRel w ok (.sl rows) x) (hi : rows[i]? = some row) :
    ∃ b off cap, x = .slice (some ⟨b, off, none⟩) rows.length cap ∧ CRel w ok μ (.vptr row) (.pointer (some ⟨b, off + i * row.length, none⟩)) := by
  cases h with
  | nil => simp at hi
  | emp _ _ _ => simp at hi
  | sl _ b off cap cv hok hcap hmax hc hv =>
    refine ⟨b, off, cap, rfl, .vptr b _ (cv i) (hok ?_) ?_ fun j v hj => hv i row j v hi hj⟩
    · rintro rfl; simp at hi
    · intro j v hj
      rw [Nat.add_assoc]; exact hc i row j v hi hj
theorem lt_of_getElem? {α : Type} {l : List α} {i : Nat} {a : α} (h : l[i]? = some a) : i < l.length := by
  rcases Nat.lt_or_ge i l.length with h' | h'
  · exact h'
  · rw [List.getElem?_eq_none h'] at h; cases h
theorem run_indexAt_slice {t e : TypeId} {j : TI} (hu : P.underlying t = some (.slice e)) (hj : tiOf P e = some j) (ad : Addr) (len cap : Nat) (k : IntKind) (m : Int) (h0 : 0 ≤ m) (h1 : m < len) :
    (Instr.indexAt t (.slice (some ad) len cap) (.int k m)).run P w = .ok (.pointer (some (ad.add (m.toNat * j.size)))) w := by
  have hs := run_sizeOf (tiOf_spec hj) w
  simp [Instr.indexAt, asIntOf, run_underlying hu, h0, h1, hs]
theorem indexAddr_sound {t : TypeId} {i : TI} {v r : AV} {p : Prop} {x y : Value} {m : Int} (hr : HR w ok μ hp) (hi : tiOf P t = some i) (h : indexAddrAV P i hp v m = some (p, r)) (hp' : p)
    (hv : AVRel w ok μ v x) {k : IntKind} (hy : y = .int k m) : ∃ z, (Instr.indexAt t x y).run P w = .ok z w ∧ AVRel w ok μ r z := by
  subst hy
  unfold indexAddrAV at h
  split at h
  · rename_i e he
    have hu := (tiOf_spec hi).slice he
    split at h
    · rename_i j hj
      split at h
      · rename_i b
        split at h
        · rename_i e' k' rows hb
          split at h
          · rename_i hk
            cases h
            obtain ⟨mb, hm, hbr⟩ := hr.rel _ _ hb
            cases hv with | one hc => cases hc with | ar hμ _ =>
            rw [hμ] at hm; cases hm
            obtain ⟨xs, hown, hall, hkk⟩ := hbr
            rcases hown.2 with ⟨rfl, hn⟩ | ⟨g, cap, cur, rfl, _, hg, hnc, hcm, hcs, htake⟩
            · omega
            · refine ⟨_, run_indexAt_slice hu hj _ _ _ k m hp'.1 hp'.2, ?_⟩
              rw [Addr.add_lit, ← hk]
              have := CRel.eptr (w := w) (ok := ok) m.toNat k' 0 hμ
              simpa using AVRel.one this
          · cases h
        · cases h
      · rename_i b k1 off len cc
        split at h
        · rename_i e' k' c' rows hb
          split at h
          · rename_i hk
            obtain ⟨hk, rfl⟩ := hk
            cases h
            obtain ⟨h0, h1, h2⟩ := hp'
            obtain ⟨mb, hm, hbr⟩ := hr.rel _ _ hb
            cases hv with | one hc => cases hc with | sub _ _ _ _ hμ hs =>
            rw [hμ] at hm; cases hm
            obtain ⟨_, _, hbr⟩ := hbr
            rcases hbr with ⟨rfl, rfl, rfl⟩ | ⟨g, n', cur, rfl, hg, hrc, hcm, hcs, hall⟩
            · simp at h2; omega
            · cases hs with | «at» ho =>
              have ho' := ho (.inl (by omega))
              subst ho'
              refine ⟨_, run_indexAt_slice hu hj _ _ _ k m h0 h1, ?_⟩
              rw [Addr.add_lit, ← hk]
              have := CRel.eptr (w := w) (ok := ok) (off + m.toNat) k' 0 hμ
              rw [Nat.add_mul] at this
              simpa using AVRel.one this
          · cases h
        · cases h
      · rename_i rows
        split at h
        · rename_i row hrow
          split at h
          · rename_i hrl
            cases h
            cases hv with | one hc => cases hc with | v hc =>
            obtain ⟨b, off, cap, rfl, hc'⟩ := row_vptr (μ := μ) hc hrow
            have hlt : m < rows.length := by have := lt_of_getElem? hrow; omega
            refine ⟨_, run_indexAt_slice hu hj _ _ _ k m hp' hlt, ?_⟩
            rw [Addr.add_lit, ← hrl]; exact .one hc'
          · cases h
        · cases h
      · rename_i rows
        split at h
        · rename_i row hrow
          split at h
          · rename_i hrl
            cases h
            cases hv with | one hc => cases hc with | full hc =>
            obtain ⟨b, off, cap, he', hc'⟩ := row_vptr (μ := μ) hc hrow
            cases he'
            have hlt : m < rows.length := by have := lt_of_getElem? hrow; omega
            refine ⟨_, run_indexAt_slice hu hj _ _ _ k m hp' hlt, ?_⟩
            rw [Addr.add_lit, ← hrl]; exact .one hc'
          · cases h
        · cases h
      · cases h
    · cases h
  · rename_i q e he
    have hu := (tiOf_spec hi).array he
    split at h
    · rename_i j hj
      have hs := run_sizeOf (tiOf_spec hj) w
      have run : ∀ ad : Addr, 0 ≤ m → m < q → (Instr.indexAt t (.pointer (some ad)) (.int k m)).run P w = .ok (.pointer (some (ad.add (m.toNat * j.size)))) w := by
        intro ad h0 h1
        simp [Instr.indexAt, asIntOf, run_underlying hu, Instr.sureAddr, h0, h1, hs]
      split at h
      · cases h
        cases hv with | one hc => cases hc with | ptr _ hμ =>
        refine ⟨_, run _ hp'.1 hp'.2, ?_⟩
        rw [Addr.add_lit]; exact .one (.ptr _ hμ)
      · cases h
        cases hv with | one hc => cases hc with | vptr b off cv hok hcell hrel =>
        refine ⟨_, run _ hp'.1 hp'.2, ?_⟩
        rw [Addr.add_lit]
        refine .one (.vptr b _ (fun z => cv (m.toNat * j.size + z)) hok ?_ ?_)
        · intro z v hz
          rw [List.getElem?_drop] at hz
          have := hcell _ v hz
          rwa [← Nat.add_assoc] at this
        · intro z v hz
          rw [List.getElem?_drop] at hz
          exact hrel _ v hz
      · cases h
    · cases h
  · cases h
theorem index_sound {t : TypeId} {i : TI} {v r : AV} {p : Prop} {x y : Value} {m : Int} (hi : tiOf P t = some i) (h : indexAV P i v m = some (p, r)) (hp' : p)
    (hv : AVRel w ok μ v x) {k : IntKind} (hy : y = .int k m) : ∃ z, (Instr.index t x y).run P w = .ok z w ∧ AVRel w ok μ r z := by
  subst hy
  unfold indexAV at h
  split at h
  · rename_i s hs
    cases h
    obtain rfl := lit_rel hv
    have hu := (tiOf_spec hi).string hs
    obtain ⟨h0, h1⟩ := hp'
    have hlt : m.toNat < s.size := by omega
    refine ⟨_, ?_, avlit rfl⟩
    have hx : s[m.toNat]? = some (s[m.toNat]'hlt) := by simp [hlt]
    simp only [Instr.index, asIntOf, Sem.run_bind, Sem.run_pure, Result.andThen_ok, run_underlying hu, h0, if_true, hx]
    congr 2
    unfold byteAt
    rw [List.getD_eq_getElem?_getD]
    have : s.data.toList[m.toNat]? = some (s[m.toNat]'hlt) := by
      rw [List.getElem?_eq_getElem (by simpa using hlt)]; rfl
    rw [this]; rfl
  · rename_i q e cs hs
    have hu := (tiOf_spec hi).array hs
    split at h
    · rename_i j hj
      obtain ⟨r', hr', he⟩ := Option.map_eq_some_iff.1 h
      cases he
      obtain ⟨h0, h1⟩ := hp'
      have hj2 := tiOf_spec hj
      cases hv with
      | agg hall =>
        rename_i xs
        have hall2 := (hall.drop (m.toNat * j.size)).take j.size
        obtain ⟨g1, g2, g3⟩ := mkAV_rel hr' hall2
        simp only [Instr.index, asIntOf, Sem.run_bind, Sem.run_pure, Result.andThen_ok, run_underlying hu, h0, h1, true_and, if_true, run_sizeOf hj2]
        simp only [part, Sem.run_bind, hj2.und_agg, Result.andThen_ok]
        by_cases hg : j.isAgg = true
        · refine ⟨_, ?_, g1 hg⟩
          simp only [hg, if_true, Sem.run_bind, run_sizeOf hj2, Result.andThen_ok, Sem.run_pure]
          congr 2
          apply Array.ext'
          simp [List.take_drop]
        · have hg' : j.isAgg = false := by simpa using hg
          obtain ⟨y, hy, hyr⟩ := g2 hg'
          refine ⟨y, ?_, hyr⟩
          simp only [hg', Bool.false_eq_true, if_false]
          have hone : j.size = 1 := by rw [← g3, hy]; rfl
          have : xs[m.toNat * j.size]? = some y := by
            have hz : (((xs.toList.drop (m.toNat * j.size)).take j.size))[0]? = some y := by rw [hy]; rfl
            rw [List.getElem?_take, if_pos (by omega), List.getElem?_drop] at hz
            simpa using hz
          rw [this]; rfl
    · cases h
  · cases h
theorem bound_cases {d : Int} {ov : Option AV} {ox : Option Value} {l : Int} (h : boundAV d ov = some l) (hv : ∀ v, ov = some v → ∃ x, ox = some x ∧ AVRel w ok μ v x) (hn : ov = none → ox = none) :
    (ox = none ∧ l = d) ∨ ∃ k, ox = some (.int k l) := by
  cases ov with
  | none => simp [boundAV] at h; exact .inl ⟨hn rfl, h.symm⟩
  | some v =>
    obtain ⟨x, hx, hr⟩ := hv v rfl
    obtain ⟨k, rfl⟩ := intOfAV_rel (by simpa [boundAV] using h) hr
    exact .inr ⟨k, hx⟩
theorem sliced_rel {rows : List (List V)} {a : Option Addr} {cap l h m k : Nat} (hr : VRel w ok (.sl rows) (.slice a rows.length cap)) (hk : UL k rows) (h1 : l ≤ h) (h2 : h ≤ rows.length) (h3 : h ≤ m) (h4 : m ≤ cap) :
    VRel w ok (.sl ((rows.take h).drop l)) (sliced a l h m k) := by
  have hlen : ((rows.take h).drop l).length = h - l := by simp; omega
  generalize hx : Value.slice a rows.length cap = x at hr
  cases hr with
  | nil =>
    cases hx
    have : h = 0 := by simpa using h2
    subst this
    have : l = 0 := by omega
    subst this
    have : m = 0 := by omega
    subst this
    simpa [sliced] using VRel.nil
  | emp ad cap' hmax =>
    cases hx
    have : h = 0 := by simpa using h2
    subst this
    have : l = 0 := by omega
    subst this
    unfold sliced
    split
    · exact .emp _ _ (by unfold maxLen at *; omega)
    · exact .emp _ _ (by unfold maxLen at *; omega)
  | sl _ b off cap' cv hok hcap hmax hc hv =>
    cases hx
    have key : ∀ off' : Nat, ((h - l) ≠ 0 → off' = off + l * k) → VRel w ok (.sl ((rows.take h).drop l)) (.slice (some ⟨b, off', none⟩) (h - l) (m - l)) := by
      intro off' hoff
      have := VRel.sl (w := w) (ok := ok) ((rows.take h).drop l) b off' (m - l) (fun i j => cv (l + i) j) ?_ (by rw [hlen]; omega) (by unfold maxLen at *; omega) ?_ ?_
      · rwa [hlen] at this
      · intro hne; apply hok; rintro rfl; simp at hne
      · intro i row j v hi hj
        rw [List.getElem?_drop, List.getElem?_take] at hi
        split at hi
        · rename_i hlt
          have hrl := hk row (List.mem_of_getElem? hi)
          have := hc (l + i) row j v hi hj
          rw [hoff (by omega)]
          rw [hrl] at this ⊢
          rw [Nat.add_mul, Nat.add_assoc] at this
          rw [Nat.add_assoc off]; simpa [Nat.add_assoc] using this
        · cases hi
      · intro i row j v hi hj
        rw [List.getElem?_drop, List.getElem?_take] at hi
        split at hi
        · exact hv (l + i) row j v hi hj
        · cases hi
    unfold sliced
    split
    · rename_i hml
      exact key off (fun hne => by omega)
    · simp only [Option.map_some, Addr.add_lit]
      exact key _ fun _ => rfl
theorem run_sliceBound' (k : IntKind) (i : Int) (y : Nat) (code : BoundsCode) (h0 : 0 ≤ i) (h1 : i ≤ y) : (Instr.sliceBound (.int k i) y code).run P w = .ok i.toNat w := run_sliceBound (P := P) w k i y code h0 h1
theorem slice_rows_sound {t e : TypeId} {j : TI} {rows : List (List V)} {a : Option Addr} {cap : Nat} {lo hi mx : Option AV} {p : Prop} {r : AV} {xl xh xm : Option Value}
    (hu : P.underlying t = some (.slice e)) (hj : tiOf P e = some j) (hr : VRel w ok (.sl rows) (.slice a rows.length cap)) (h : sliceRows j.size rows lo hi mx = some (p, r)) (hp' : p)
    (vl : ∀ v, lo = some v → ∃ x, xl = some x ∧ AVRel w ok μ v x) (nl : lo = none → xl = none)
    (vh : ∀ v, hi = some v → ∃ x, xh = some x ∧ AVRel w ok μ v x) (nh : hi = none → xh = none)
    (vm : ∀ v, mx = some v → ∃ x, xm = some x ∧ AVRel w ok μ v x) (nm : mx = none → xm = none) :
    ∃ z, (Instr.sliceAt t (.slice a rows.length cap) xl xh xm).run P w = .ok z w ∧ AVRel w ok μ r z := by
  have hcap : rows.length ≤ cap := by
    generalize hx : Value.slice a rows.length cap = x at hr
    cases hr <;> cases hx
    · exact Nat.le_refl _
    · exact Nat.zero_le _
    · assumption
  have hs := run_sizeOf (tiOf_spec hj) w
  have he : P.elem t = e := by simp [Program.elem, hu]
  have hu' : P.underlying t = some (.slice (P.elem t)) := by rw [he]; exact hu
  rw [run_sliceAt_slice w t _ _ _ _ hu']
  have main : ∀ l h m : Nat, (Instr.sliceBounds true rows.length cap xl xh xm).run P w = .ok (l, h, m) w → (Instr.slice t (.slice a rows.length cap) xl xh xm).run P w = .ok (sliced a l h m j.size) w := by
    intro l h m hb
    rw [run_slice_any w t a rows.length cap hu', hb, he]
    simp [hs]
  unfold sliceRows at h
  split at h
  · rename_i l hh hl hhh
    have bl : ∀ (K : Nat → Sem (Nat × Nat × Nat)) code, ∀ y : Nat, l ≤ y → 0 ≤ l → (match xl with | some v => (do let q ← Instr.sliceBound v y code; K q) | none => (do let q ← Pure.pure 0; K q) : Sem (Nat × Nat × Nat)).run P w = (K l.toNat).run P w := by
      intro K code y h1 h0
      rcases bound_cases hl vl nl with ⟨rfl, rfl⟩ | ⟨kl, rfl⟩
      · rfl
      · simp only [Sem.run_bind, run_sliceBound' (P := P) (w := w) kl l y code h0 h1, Result.andThen_ok]
    have bh := bound_cases hhh vh nh
    split at h
    · cases h
      obtain rfl := nm rfl
      obtain ⟨hul, h0, h1, h2⟩ := hp'
      refine ⟨_, main _ _ cap ?_, .one (.v (sliced_rel hr hul (l := l.toNat) (h := hh.toNat) (by omega) (by omega) (by omega) (Nat.le_refl _)))⟩
      rcases bh with ⟨rfl, rfl⟩ | ⟨kh, rfl⟩
      · simp only [Instr.sliceBounds, Sem.run_bind, Sem.run_pure, Result.andThen_ok, Option.isSome_none, Bool.false_eq_true, if_false, Int.toNat_natCast]
        exact bl _ .sliceB rows.length h1 h0
      · simp only [Instr.sliceBounds, Sem.run_bind, Sem.run_pure, Result.andThen_ok, Option.isSome_none, Bool.false_eq_true, if_false, if_true, run_sliceBound' (P := P) (w := w) kh hh cap .sliceAcap (by omega) (by omega)]
        exact bl _ .sliceB hh.toNat (by omega) h0
    · rename_i m
      split at h
      · rename_i mm hv' hm1
        cases h
        obtain ⟨xm', rfl, hmr⟩ := vm _ rfl
        obtain ⟨km, rfl⟩ := intOfAV_rel hm1 hmr
        obtain ⟨hul, h0, h1, rfl, h2⟩ := hp'
        have hfull : ((rows.take hh.toNat).drop l.toNat).length = hh.toNat - l.toNat := by simp; omega
        have hrel := sliced_rel (m := hh.toNat) hr hul (l := l.toNat) (h := hh.toNat) (by omega) (by omega) (Nat.le_refl _) (by omega)
        have hfin : CRel w ok μ (.full ((rows.take hh.toNat).drop l.toNat)) (sliced a l.toNat hh.toNat hh.toNat j.size) := by
          unfold sliced at hrel ⊢
          have := @CRel.full w ok μ ((rows.take hh.toNat).drop l.toNat) _ (by rw [hfull]; exact hrel)
          rwa [hfull] at this
        refine ⟨_, main _ _ _ ?_, .one hfin⟩
        rcases bh with ⟨rfl, _⟩ | ⟨kh, rfl⟩
        · obtain ⟨_, hx, _⟩ := vh _ rfl; cases hx
        · simp only [Instr.sliceBounds, Sem.run_bind, Result.andThen_ok, Option.isSome_some, if_true, run_sliceBound' (P := P) (w := w) km hh cap .slice3Acap (by omega) (by omega), run_sliceBound' (P := P) (w := w) kh hh hh.toNat .slice3B (by omega) (by omega)]
          exact bl _ .slice3C hh.toNat (by omega) h0
      · cases h
  · cases h
theorem run_slice_J {t e : TypeId} {j : TI} {a : Option Addr} {len cap : Nat} {lo hi : Option AV} {xl xh xm : Option Value} {l h : Int} (hu : P.underlying t = some (.slice e)) (hj : tiOf P e = some j)
    (vl : ∀ v, lo = some v → ∃ x, xl = some x ∧ AVRel w ok μ v x) (nl : lo = none → xl = none)
    (vh : ∀ v, hi = some v → ∃ x, xh = some x ∧ AVRel w ok μ v x) (nh : hi = none → xh = none)
    (hl : boundAV 0 lo = some l) (hh : boundAV len hi = some h) (h0 : 0 ≤ l) (h1 : l ≤ h) :
    (xm = none → h ≤ cap → (Instr.sliceAt t (.slice a len cap) xl xh xm).run P w = .ok (sliced a l.toNat h.toNat cap j.size) w) ∧
    (∀ km m, xm = some (.int km m) → (∃ v, hi = some v) → h ≤ m → m ≤ cap → (Instr.sliceAt t (.slice a len cap) xl xh xm).run P w = .ok (sliced a l.toNat h.toNat m.toNat j.size) w) := by
  have hs := run_sizeOf (tiOf_spec hj) w
  have he : P.elem t = e := by simp [Program.elem, hu]
  have hu' : P.underlying t = some (.slice (P.elem t)) := by rw [he]; exact hu
  have main : ∀ l h m : Nat, (Instr.sliceBounds true len cap xl xh xm).run P w = .ok (l, h, m) w → (Instr.slice t (.slice a len cap) xl xh xm).run P w = .ok (sliced a l h m j.size) w := by
    intro l h m hb
    rw [run_slice_any w t a len cap hu', hb, he]
    simp [hs]
  have bl : ∀ (K : Nat → Sem (Nat × Nat × Nat)) code, ∀ y : Nat, l ≤ y → 0 ≤ l → (match xl with | some v => (do let q ← Instr.sliceBound v y code; K q) | none => (do let q ← Pure.pure 0; K q) : Sem (Nat × Nat × Nat)).run P w = (K l.toNat).run P w := by
    intro K code y h1 h0
    rcases bound_cases hl vl nl with ⟨rfl, rfl⟩ | ⟨kl, rfl⟩
    · rfl
    · simp only [Sem.run_bind, run_sliceBound' (P := P) (w := w) kl l y code h0 h1, Result.andThen_ok]
  have bh := bound_cases hh vh nh
  rw [run_sliceAt_slice w t _ _ _ _ hu']
  refine ⟨fun hxm h2 => ?_, fun km m hxm hv h2 h3 => ?_⟩
  · subst hxm
    refine main _ _ cap ?_
    rcases bh with ⟨rfl, rfl⟩ | ⟨kh, rfl⟩
    · simp only [Instr.sliceBounds, Sem.run_bind, Sem.run_pure, Result.andThen_ok, Option.isSome_none, Bool.false_eq_true, if_false, Int.toNat_natCast]
      exact bl _ .sliceB len h1 h0
    · simp only [Instr.sliceBounds, Sem.run_bind, Sem.run_pure, Result.andThen_ok, Option.isSome_none, Bool.false_eq_true, if_false, if_true, run_sliceBound' (P := P) (w := w) kh h cap .sliceAcap (by omega) (by omega)]
      exact bl _ .sliceB h.toNat (by omega) h0
  · subst hxm
    refine main _ _ _ ?_
    rcases bh with ⟨rfl, _⟩ | ⟨kh, rfl⟩
    · obtain ⟨v, hv⟩ := hv; obtain ⟨_, hx, _⟩ := vh v hv; cases hx
    · simp only [Instr.sliceBounds, Sem.run_bind, Result.andThen_ok, Option.isSome_some, if_true, run_sliceBound' (P := P) (w := w) km m cap .slice3Acap (by omega) (by omega), run_sliceBound' (P := P) (w := w) kh h m.toNat .slice3B (by omega) (by omega)]
      exact bl _ .slice3C h.toNat (by omega) h0
theorem sub_slice {x y : Value} {k off len c : Nat} {l h : Nat} {a : Option Addr} {n cap : Nat} (hs : SubOf k off len c x y) (hy : y = .slice a n cap) (h1 : l ≤ h) (h2 : off + h ≤ c) : SubOf k (off + l) (h - l) c x (sliced a l h cap k) := by
  cases hs with
  | nil h0 hc =>
    cases hy
    have : h = 0 := by omega
    subst this
    have : l = 0 := by omega
    subst this
    have : c = 0 := by omega
    simpa [sliced] using SubOf.nil (k := k) (off := off) (len := 0) rfl this
  | «at» ho =>
    rename_i g n' o
    cases hy
    unfold sliced
    split
    · rename_i hc
      rw [show c - off - l = c - (off + l) by omega]
      refine .at fun hh => ?_
      rcases hh with hh | hh
      · omega
      · have h3 : off = 0 := by omega
        have h4 : l = 0 := by omega
        subst h3; subst h4
        simpa using ho (.inr rfl)
    · simp only [Option.map_some, Addr.add_lit]
      rw [show c - off - l = c - (off + l) by omega]
      refine .at fun hh => ?_
      have := ho (by omega)
      rw [this, Nat.add_mul]
theorem sub_len {k off len c : Nat} {x y : Value} (hs : SubOf k off len c x y) : ∃ a, y = .slice a len (c - off) := by
  cases hs with
  | nil h hc => subst h; subst hc; exact ⟨none, by simp⟩
  | «at» h => exact ⟨_, rfl⟩
theorem slice_sub_sound {t e : TypeId} {j : TI} {i off len c : Nat} {x : Value} {lo hi mx : Option AV} {p : Prop} {r : AV} {xl xh xm : Option Value}
    (hu : P.underlying t = some (.slice e)) (hj : tiOf P e = some j) (hr : CRel w ok μ (.sub i j.size off len c) x) (h : sliceSub i j.size off len c lo hi mx = some (p, r)) (hp' : p)
    (vl : ∀ v, lo = some v → ∃ x, xl = some x ∧ AVRel w ok μ v x) (nl : lo = none → xl = none)
    (vh : ∀ v, hi = some v → ∃ x, xh = some x ∧ AVRel w ok μ v x) (nh : hi = none → xh = none)
    (vm : ∀ v, mx = some v → ∃ x, xm = some x ∧ AVRel w ok μ v x) (nm : mx = none → xm = none) :
    ∃ z, (Instr.sliceAt t x xl xh xm).run P w = .ok z w ∧ AVRel w ok μ r z := by
  cases hr with | sub _ _ _ _ hμ hs =>
  obtain ⟨a, rfl⟩ := sub_len hs
  unfold sliceSub at h
  split at h
  · rename_i l hh hl hhb
    split at h
    · cases h
      obtain rfl := nm rfl
      obtain ⟨h0, h1, h2⟩ := hp'
      obtain ⟨r1, _⟩ := run_slice_J (a := a) (cap := c - off) hu hj vl nl vh nh hl hhb h0 h1 (xm := none)
      exact ⟨_, r1 rfl (by omega), .one (.sub _ _ _ _ hμ (sub_slice hs rfl (by omega) (by omega)))⟩
    · rename_i mv
      split at h
      · rename_i mm hv' hm1
        cases h
        obtain ⟨xm', rfl, hmr⟩ := vm _ rfl
        obtain ⟨km, rfl⟩ := intOfAV_rel hm1 hmr
        obtain ⟨h0, h1, h2, h3⟩ := hp'
        obtain ⟨_, r2⟩ := run_slice_J (a := a) (cap := c - off) hu hj vl nl vh nh hl hhb h0 h1 (xm := some (.int km mm))
        exact ⟨_, r2 km mm rfl ⟨_, rfl⟩ h2 (by omega), .any⟩
      · cases h
  · cases h
end
end Go.Proofs.AE
set_option linter.unusedVariables false
set_option linter.unusedSimpArgs false
namespace Go.Proofs.AE
open Go Go.RowKit
section
variable {P : Program} {w w' : World} {ok ok' : Nat → Prop} {μ μ' : List MB} {hp hp' : Hp}
theorem find_spec {s : ByteArray} : ∀ {es : List (ByteArray × Value)} {l : List MapEntry} (i : Nat), l.map (fun e => (e.key, e.val)) = es.map (fun e => (Value.string e.1, e.2)) →
    (mpFind es s = none ∧ Instr.findNow .string (.string s) l i = some none ∧ mpPut es s = (fun x => es ++ [(s, x)]) ∧ mpDel es s = es) ∨
    ∃ j e, mpFind es s = some e.val ∧ Instr.findNow .string (.string s) l i = some (some (i + j, e.val)) ∧ l[j]? = some e ∧ e.key = .string s ∧ (∀ x, mpPut es s x = es.set j (s, x)) ∧ mpDel es s = es.eraseIdx j
  | [], [], i, _ => .inl ⟨rfl, rfl, rfl, rfl⟩
  | [], _ :: _, _, h => by simp at h
  | _ :: _, [], _, h => by simp at h
  | (a, v) :: es, e :: l, i, h => by
    simp only [List.map_cons, List.cons.injEq, Prod.mk.injEq] at h
    obtain ⟨⟨h1, h2⟩, h3⟩ := h
    by_cases ha : s = a
    · subst ha
      refine .inr ⟨0, e, by simp [mpFind, h2], ?_, rfl, h1, fun x => by simp [mpPut], by simp [mpDel]⟩
      have : (s == s) = true := (MapKept.bytes_beq s s).2 rfl
      simp [Instr.findNow, Instr.sameNow, h1, this]
    · have hb : (s == a) = false := by
        cases hq : s == a with
        | false => rfl
        | true => exact absurd ((MapKept.bytes_beq s a).1 hq) ha
      rcases find_spec (s := s) (es := es) (l := l) (i + 1) h3 with ⟨g1, g2, g3, g4⟩ | ⟨j, e', g1, g2, g3, g4, g5, g6⟩
      · refine .inl ⟨by simp [mpFind, ha, g1], by simp [Instr.findNow, Instr.sameNow, h1, hb, g2], ?_, by simp [mpDel, ha, g4]⟩
        funext x
        simp [mpPut, ha, g3]
      · exact .inr ⟨j + 1, e', by simp [mpFind, ha, g1], by simp [Instr.findNow, Instr.sameNow, h1, hb, g2]; omega, by simpa using g3, g4, fun x => by simp [mpPut, ha, g5], by simp [mpDel, ha, g6]⟩
theorem find_val {es : List (ByteArray × Value)} {s : ByteArray} {v : Value} (h : mpFind es s = some v) : ∃ e ∈ es, e.2 = v := by
  induction es with
  | nil => cases h
  | cons a r ih =>
    obtain ⟨k, u⟩ := a
    unfold mpFind at h
    split at h
    · cases h; exact ⟨_, List.mem_cons_self .., rfl⟩
    · obtain ⟨e, h1, h2⟩ := ih h
      exact ⟨e, List.mem_cons_of_mem _ h1, h2⟩
theorem mp_at (hr : HR w ok μ hp) {i : Nat} {v : AV} {x : Value} {t : TypeId} {es : List (ByteArray × Value)} (hv : AVRel w ok μ v x) (hx : v = .one (.mp i)) (hi : hp[i]? = some (some (.mp t es))) :
    ∃ b ms clock, x = .map (some b) ∧ μ[i]? = some (.box b) ∧ w.heap[b]? = some (.map ms clock) ∧ ms.toList.map (fun e => (e.key, e.val)) = es.map (fun e => (Value.string e.1, e.2)) ∧ ∀ e ∈ es, e.2.oneCell' = true := by
  subst hx
  obtain ⟨m, hμ, hb⟩ := hr.rel _ _ hi
  cases hv with | one hc =>
  cases hc with | mp hc =>
  rw [hc] at hμ; cases hμ
  obtain ⟨ms, clock, g1, g2, g3⟩ := hb
  exact ⟨_, ms, clock, rfl, hc, g1, g2, g3⟩
theorem look_sound {t : TypeId} {v vk r : AV} {x xk : Value} {okk : Bool} {p : Prop} (hr : HR w ok μ hp) (hv : AVRel w ok μ v x) (hvk : AVRel w ok μ vk xk) (h : mpLook P hp t v vk okk = some (p, r)) :
    ∃ y, (Instr.lookup t x xk okk).run P w = .ok y w ∧ AVRel w ok μ r y := by
  have hk : ∀ s : ByteArray, MapKept.IsKey .string (.string s) := fun _ => trivial
  unfold mpLook at h
  split at h
  · rename_i z i s he
    split at h
    · rename_i u es hi
      cases h
      obtain ⟨kt, e, ti, hu, hks, hti, hz, hzo⟩ := mapTy_spec he
      have hkv := lit_rel hvk
      obtain ⟨b, ms, clock, hxv, hμ, g1, g2, g3⟩ := mp_at hr hv rfl hi
      have hzv : (zeroValue e).run P w = .ok z w := by simp [zeroValue, typeInfo, hti, hz]
      rcases find_spec (s := s) 0 g2 with ⟨f1, f2, _, _⟩ | ⟨q, e', f1, f2, _, _, _, _⟩
      · refine ⟨if okk = true then .tuple #[z, .bool false] else z, ?_, ?_⟩
        · simp [Instr.lookup, hxv, hkv, run_underlying hu, MapKept.run_getObj_map g1, MapKept.run_checkKey hks (hk s), MapKept.run_findKey hks f2, hzv, Result.andThen]
        · rw [f1]
          cases okk with
          | true => exact .tup (.cons (avlit hzo) (.cons (avlit rfl) .nil))
          | false => exact avlit hzo
      · have hvo : e'.val.oneCell' = true := by
          obtain ⟨e1, h1, h2⟩ := find_val f1
          rw [← h2]; exact g3 e1 h1
        refine ⟨if okk = true then .tuple #[e'.val, .bool true] else e'.val, ?_, ?_⟩
        · simp [Instr.lookup, hxv, hkv, run_underlying hu, MapKept.run_getObj_map g1, MapKept.run_checkKey hks (hk s), MapKept.run_findKey hks f2, Result.andThen]
        · rw [f1]
          cases okk with
          | true => exact .tup (.cons (avlit hvo) (.cons (avlit rfl) .nil))
          | false => exact avlit hvo
    · cases h
  · cases h
end
end Go.Proofs.AE
set_option linter.unusedVariables false
set_option linter.unusedSimpArgs false
namespace Go.Proofs.AE
open Go Go.RowKit
section
variable {P : Program} {n : Nat} {w : World} {ok : Nat → Prop} {μ : List MB} {hp : Hp}
theorem zV_rel {x : Value} {v : V} (h : zV x = some v) : VRel w ok v x := by
  unfold zV at h
  split at h <;> cases h <;> first | exact .nil | exact .lit _ rfl
theorem zVs_rel : ∀ {xs : List Value} {vs : List V}, zVs xs = some vs → All2 (VRel w ok) vs xs
  | [], vs, h => by cases h; exact .nil
  | x :: xs, vs, h => by
    unfold zVs at h
    split at h
    · rename_i a b ha hb; cases h; exact .cons (zV_rel ha) (zVs_rel hb)
    · cases h
theorem zC_rel {x : Value} {v : V} (h : zV x = some v) : CRel w ok μ (vC v) x := by
  unfold zV at h
  split at h <;> cases h <;> first | exact .nil | exact .v (.lit _ rfl)
theorem zeroC_rel : ∀ {xs : List Value} {vs : List V}, zVs xs = some vs → All2 (CRel w ok μ) (vs.map vC) xs
  | [], vs, h => by cases h; exact .nil
  | x :: xs, vs, h => by
    unfold zVs at h
    split at h
    · rename_i a b ha hb; cases h; exact .cons (zC_rel ha) (zeroC_rel hb)
    · cases h
theorem cellsAV_rel {v : AV} {cs : List C} {x : Value} (h : cellsAV v = some cs) (hv : AVRel w ok μ v x) : All2 (CRel w ok μ) cs x.cells.toList := by
  unfold cellsAV at h
  split at h
  · cases h; cases hv with | one hc =>
    have : x.cells = #[x] := by have := hc.oneCell; cases x <;> simp_all [Value.cells, Value.oneCell']
    rw [this]; exact .cons hc .nil
  · cases h; cases hv with | agg hall => exact hall
  · cases h
theorem foldl_set (xs : List Value) : ∀ (off k : Nat) (cs : Array Value), off + k + xs.length ≤ cs.size →
    ((xs.zipIdx k).foldl (fun cs (c, j) => cs.setIfInBounds (off + j) c) cs).toList = cs.toList.take (off + k) ++ xs ++ cs.toList.drop (off + k + xs.length) := by
  induction xs with
  | nil => intro off k cs _; simp
  | cons x xs ih =>
    intro off k cs h
    simp only [List.zipIdx_cons, List.foldl_cons, List.length_cons] at h ⊢
    rw [show off + k + (xs.length + 1) = off + (k + 1) + xs.length by omega] at *
    rw [ih off (k + 1) _ (by simpa using h)]
    have hlt : off + k < cs.toList.length := by simp; omega
    simp only [Array.toList_setIfInBounds]
    apply List.ext_getElem?
    intro i
    simp only [List.append_assoc, List.getElem?_append, List.length_take, List.length_set, List.getElem?_take, List.getElem?_set, List.getElem?_drop, List.length_cons, List.getElem?_cons, Array.length_toList]
    have hsz : off + (k + 1) ≤ cs.size := by omega
    rw [Nat.min_eq_left hsz, Nat.min_eq_left (by omega : off + k ≤ cs.size)]
    by_cases h1 : i < off + k
    · rw [if_pos (by omega), if_pos (by omega), if_neg (by omega), if_pos h1, if_pos h1]
    · by_cases h2 : i = off + k
      · subst h2
        rw [if_pos (by omega), if_pos (by omega), if_pos rfl, if_pos (by omega), if_neg (by omega), if_pos (by omega), if_pos (by omega)]
      · rw [if_neg (by omega), if_neg h1]
        by_cases h3 : i - (off + (k + 1)) < xs.length
        · rw [if_pos h3, if_pos (by omega), if_neg (by omega), show i - (off + k) - 1 = i - (off + (k + 1)) by omega]
        · rw [if_neg h3, if_neg (by omega)]
          rw [if_neg (by omega)]
          congr 1; omega
theorem fill_sound {i : TI} {pl : Nat → Option (Nat × Nat)} {place : Nat → Option (Nat × Nat)} (hpl : ∀ f q, place f = some q → pl f = some q) :
    ∀ (parts : List (Nat × AV)) (vals : List (Nat × Value)) (cs cs' : List C) (xs : Array Value), All2 (fun (a : Nat × AV) (b : Nat × Value) => a.1 = b.1 ∧ AVRel w ok μ a.2 b.2) parts vals →
      buildAV i place cs parts = some cs' → All2 (CRel w ok μ) cs xs.toList → ∃ xs', Instr.fill pl xs vals = some xs' ∧ All2 (CRel w ok μ) cs' xs'.toList
  | [], _, cs, cs', xs, h, hb, hx => by
    cases h; simp [buildAV] at hb; subst hb; exact ⟨xs, rfl, hx⟩
  | (f, v) :: parts, _, cs, cs', xs, h, hb, hx => by
    cases h with
    | @cons _ b _ vals h t =>
    obtain ⟨f', x⟩ := b
    obtain ⟨rfl, hv⟩ := h
    unfold buildAV at hb
    split at hb
    · rename_i o k ys hpf hys
      split at hb
      · rename_i hc
        obtain ⟨hk, hle⟩ := hc
        have hcell := cellsAV_rel hys hv
        have hlen : x.cells.size = k := by have := hcell.length; simp at this; omega
        have hsz : cs.length = xs.size := by simpa using hx.length
        have hfold := foldl_set x.cells.toList o 0 xs (by simp [hlen]; omega)
        have hfold' : (x.cells.zipIdx.foldl (fun cs (c, j) => cs.setIfInBounds (o + j) c) xs).toList = xs.toList.take o ++ x.cells.toList ++ xs.toList.drop (o + k) := by
          rw [← Array.foldl_toList, Array.toList_zipIdx, hfold]
          simp [hlen]
        have hx' : All2 (CRel w ok μ) (cs.take o ++ ys ++ cs.drop (o + k)) (x.cells.zipIdx.foldl (fun cs (c, j) => cs.setIfInBounds (o + j) c) xs).toList := by
          rw [hfold']; exact ((hx.take o).append hcell).append (hx.drop _)
        obtain ⟨xs', h1, h2⟩ := fill_sound hpl parts vals _ cs' _ t hb hx'
        refine ⟨xs', ?_, h2⟩
        simp only [Instr.fill, hpl _ _ hpf]
        rw [if_neg (by simp [hlen]; omega)]
        exact h1
      · cases hb
    · cases hb
theorem build_sound {t : TypeId} {i : TI} {parts : List (Nat × AV)} {vals : Array (Nat × Value)} {cs' : List C} (hi : tiOf P t = some i)
    (h : buildAV i (placesOf P i) (i.zero.map vC) parts = some cs') (hg : elemOk P i = true) (hv : All2 (fun (a : Nat × AV) (b : Nat × Value) => a.1 = b.1 ∧ AVRel w ok μ a.2 b.2) parts vals.toList) :
    ∃ y, (Instr.build t vals).run P w = .ok y w ∧ AVRel w ok μ (.agg cs') y := by
  have hti := tiOf_spec hi
  obtain ⟨it, hit, hsz, _, z, hz, hzs, hzl⟩ := hti.info
  have hz0 : All2 (CRel w ok μ) (i.zero.map vC) z.cells.toList := zeroC_rel hzs
  unfold elemOk at hg
  split at hg
  case h_2 fs hfs =>
    obtain ⟨as, hu, hmap, hfz⟩ := hti.struct hfs
    have hm : ∃ places, as.toList.mapM (fun f => (P.info? f.type).map fun i => (f.offset, i.size)) = some places ∧ ∀ (k : Nat) q, placesOf P i k = some q → places[k]? = some q := by
      have key : ∀ (l : List Field), (∀ f ∈ l, ∃ j, P.info? f.type = some j ∧ j.size ≠ 0) → ∃ places, l.mapM (fun f => (P.info? f.type).map fun i => (f.offset, i.size)) = some places ∧
          ∀ (k : Nat) f, l[k]? = some f → ∀ j, P.info? f.type = some j → places[k]? = some (f.offset, j.size) := by
        intro l
        induction l with
        | nil => intro _; exact ⟨[], rfl, fun k f hf => by simp at hf⟩
        | cons f l ih =>
          intro hl
          obtain ⟨places, h1, h2⟩ := ih fun g hg => hl g (List.mem_cons_of_mem _ hg)
          obtain ⟨j, hj, _⟩ := hl f (List.mem_cons_self ..)
          refine ⟨(f.offset, j.size) :: places, by simp [List.mapM_cons, hj, h1], ?_⟩
          intro k g hg j' hj'
          cases k with
          | zero => simp at hg; subst hg; rw [hj] at hj'; cases hj'; rfl
          | succ k => simpa using h2 k g (by simpa using hg) j' hj'
      obtain ⟨places, h1, h2⟩ := key as.toList hfz
      refine ⟨places, h1, fun k q hq => ?_⟩
      unfold placesOf at hq
      rw [hfs] at hq
      simp only at hq
      split at hq
      · rename_i ft o hf
        split at hq
        · rename_i j hj
          cases hq
          rw [hmap, List.getElem?_map] at hf
          obtain ⟨fd, hfd, he⟩ := Option.map_eq_some_iff.1 hf
          cases he
          obtain ⟨j', hj', hs'⟩ := (tiOf_spec hj).size
          rw [← hs']; exact h2 k fd hfd j' hj'
        · cases hq
      · cases hq
    obtain ⟨places, hp1, hp2⟩ := hm
    obtain ⟨xs', h1, h2⟩ := fill_sound (pl := (places.toArray[·]?)) (fun f q hq => by simpa using hp2 f q hq) parts vals.toList _ cs' z.cells hv h hz0
    refine ⟨_, run_build w t vals xs' ?_, .agg h2⟩
    simp only [Program.built, hit, hu, hz, hp1, h1]
  case h_1 q e hfs =>
    have hu := hti.array hfs
    obtain ⟨jj, hjj⟩ := Option.isSome_iff_exists.1 hg
    obtain ⟨j, hj1, hs'⟩ := (tiOf_spec hjj).size
    have hj2 : ∀ f q, placesOf P i f = some q → q = (f * j.size, j.size) := by
      intro f q hq
      unfold placesOf at hq; rw [hfs] at hq; simp only [hjj] at hq
      cases hq; rw [hs']
    obtain ⟨xs', h1, h2⟩ := fill_sound (pl := fun i => some (i * j.size, j.size)) (fun f q hq => by rw [hj2 f q hq]) parts vals.toList _ cs' z.cells hv h hz0
    refine ⟨_, run_build w t vals xs' ?_, .agg h2⟩
    simp only [Program.built, hit, hu, hz, hj1, h1]
  case h_3 => cases hg
theorem run_len_slice {t : TypeId} {e : TypeId} (hu : P.underlying t = some (.slice e)) (a : Option Addr) (l c ty : Nat) : (Builtin.len_ #[t] ty #[.slice a l c]).run P w = .ok (.int .i64 l) w := by
  simp [Builtin.len_, run_underlying hu, goInt]
theorem run_len_string {t : TypeId} (hu : P.underlying t = some .string) (s : ByteArray) (ty : Nat) : (Builtin.len_ #[t] ty #[.string s]).run P w = .ok (.int .i64 s.size) w := by
  simp [Builtin.len_, run_underlying hu, goInt]
theorem run_len_map {t k e : TypeId} (hu : P.underlying t = some (.map k e)) {b : Nat} {ms : Array MapEntry} {clock : Nat} (hb : w.heap[b]? = some (.map ms clock)) (ty : Nat) : (Builtin.len_ #[t] ty #[.map (some b)]).run P w = .ok (.int .i64 ms.size) w := by
  simp [Builtin.len_, run_underlying hu, goInt, MapKept.run_getObj_map hb]
theorem run_len_array {t e q : TypeId} (hu : P.underlying t = some (.array q e)) (x : Value) (ty : Nat) : (Builtin.len_ #[t] ty #[x]).run P w = .ok (.int .i64 q) w := by
  cases x <;> simp [Builtin.len_, run_underlying hu, goInt]
theorem avCs_rel {ρ : Operand → Value} {ev : Operand → AV} (hev : ∀ x, AVRel w ok μ (ev x) (ρ x)) : ∀ {l : List Operand} {cs : List C}, avCs (l.map ev) = some cs → All2 (CRel w ok μ) cs (l.map ρ)
  | [], cs, h => by cases h; exact .nil
  | x :: l, cs, h => by
    simp only [List.map_cons] at h
    unfold avCs at h
    split at h
    · rename_i c cs' hc hcs
      cases h
      refine .cons ?_ (avCs_rel hev hcs)
      have hx := hev x
      unfold avC at hc
      split at hc
      · rename_i c' he; cases hc; rw [he] at hx; cases hx; assumption
      · cases hc
    · cases h
theorem minmax_rel {isMax : Bool} {l : List AV} {xs : List Value} {r : AV} (h : minmaxI isMax l = some r) (hl : AVRels w ok μ l xs) :
    ∃ k k' a b, xs = [.int k a, .int k' b] ∧ r = .one (.v (.lit (.int k (if isMax then (if a < b then b else a) else (if b < a then b else a))))) := by
  unfold minmaxI at h
  split at h
  · cases h
    cases hl with | cons h1 hl =>
    cases hl with | cons h2 hl =>
    cases hl
    obtain rfl := lit_rel h1
    obtain rfl := lit_rel h2
    exact ⟨_, _, _, _, rfl, rfl⟩
  · cases h
theorem avrels_map {ρ : Operand → Value} {ev : Operand → AV} (hev : ∀ x, AVRel w ok μ (ev x) (ρ x)) : ∀ (l : List Operand), AVRels w ok μ (l.map ev) (l.map ρ)
  | [] => .nil
  | x :: l => .cons (hev x) (avrels_map hev l)
theorem agg_rel {cs : List C} {x : Value} (h : AVRel w ok μ (.agg cs) x) : ∃ xs, x = .agg xs ∧ All2 (CRel w ok μ) cs xs.toList := by
  cases h with | agg h => exact ⟨_, rfl, h⟩
theorem avrels_get : ∀ {l : List AV} {xs : List Value}, AVRels w ok μ l xs → ∀ {i : Nat} {v : AV}, l[i]? = some v → ∃ x, xs[i]? = some x ∧ AVRel w ok μ v x
  | _, _, .nil, i, v, h => by simp at h
  | _, _, .cons h t, 0, v, hv => by simp at hv; subst hv; exact ⟨_, rfl, h⟩
  | _, _, .cons h t, i + 1, v, hv => by simpa using avrels_get t (by simpa using hv)
theorem opt_rel {ρ : Operand → Value} {ev : Operand → AV} (hev : ∀ x, AVRel w ok μ (ev x) (ρ x)) (o : Option Operand) :
    (∀ v, o.map ev = some v → ∃ x, o.map ρ = some x ∧ AVRel w ok μ v x) ∧ (o.map ev = none → o.map ρ = none) := by
  cases o with
  | none => exact ⟨fun v h => by simp at h, fun _ => rfl⟩
  | some x => exact ⟨fun v h => by simp at h; subst h; exact ⟨_, rfl, hev x⟩, fun h => by simp at h⟩
theorem parts_rel {ρ : Operand → Value} {ev : Operand → AV} (hev : ∀ x, AVRel w ok μ (ev x) (ρ x)) : ∀ (l : List (Nat × Operand)),
    All2 (fun (a : Nat × AV) (b : Nat × Value) => a.1 = b.1 ∧ AVRel w ok μ a.2 b.2) (l.map fun (k, x) => (k, ev x)) (l.map fun (k, x) => (k, ρ x))
  | [] => .nil
  | (k, x) :: l => .cons ⟨rfl, hev x⟩ (parts_rel hev l)
theorem pureOp_sound {o : Oper} {ρ : Operand → Value} {ev : Operand → AV} {p : Prop} {r : AV} (hr : HR w ok μ hp) (hev : ∀ x, AVRel w ok μ (ev x) (ρ x))
    (h : pureOp P hp ev o.op = some (p, r)) (hp' : p) : ∃ x, (execOp ρ o).run P w = .ok (.value x) w ∧ AVRel w ok μ r x := by
  unfold pureOp at h
  split at h
  · rename_i x he; cases h; exact ⟨_, by simp [execOp, he], hev x⟩
  · rename_i x he; cases h; exact ⟨_, by simp [execOp, he], hev x⟩
  · rename_i t a he
    split at h
    · rename_i i hi
      obtain ⟨v, hv, e⟩ := Option.map_eq_some_iff.1 h
      cases e
      obtain ⟨y, h1, h2⟩ := load_sound (s := ⟨[], fun _ => .any, hp⟩) hr hi hv (hev a)
      exact ⟨y, by simp [execOp, he, h1], h2⟩
    · cases h
  · rename_i op t x y yt he
    have hx := hev x
    have hy := hev y
    unfold binAV at h
    split at h
    · rename_i va vb hxe hye
      rw [hxe] at hx; rw [hye] at hy
      obtain ⟨⟨p', v⟩, hv, e⟩ := Option.map_eq_some_iff.1 h
      cases e
      obtain hx' := lit_rel hx
      obtain hy' := lit_rel hy
      obtain ⟨h1, h2⟩ := run_binV (w := w) hv hp' x y
      refine ⟨v, ?_, avlit h2⟩
      simp only [execOp, he, hx', hy']
      simp only [Sem.run_bind] at h1 ⊢
      rw [h1]; rfl
    · rename_i xs ys hxe hye
      rw [hxe] at hx; rw [hye] at hy
      split at h
      · rename_i i hi
        split at h
        · cases h
        · rename_i hne
          obtain ⟨xv, hxr, hall⟩ := agg_rel hx
          obtain ⟨yv, hyr, hall2⟩ := agg_rel hy
          have hflat := (tiOf_spec hi).flat
          have hn : i.flat ≠ [] := by simpa using hne
          unfold flatOf at hflat
          split at hflat
          · exact (hn hflat).elim
          · rename_i hguard
            split at hflat
            · rename_i fs hu
              cases hfb : flatB P 12 t with
              | none => rw [hfb] at hflat; exact (hn hflat).elim
              | some l =>
                rw [hfb] at hflat
                simp only [Option.getD_some] at hflat
                have hagg : aggB P t = true := by simp [aggB, hu]
                have hg : ∀ b : BinOp, (eqGuard b t x y (.agg xv) (.agg yv)).run P w = .ok () w := fun b => run_eqGuard_agg w b t x y xv yv (by simpa using hguard)
                have fin : ∀ b : Bool, eqCells i.flat xs ys = some b → (Op.equalIn 10000 t (.agg xv) (.agg yv)).run P w = .ok b w := by
                  intro b hb
                  obtain ⟨rfl, hf⟩ := eqCells_rel hb hall hall2
                  rw [hflat] at hf
                  have := run_flat 12 t l 9988 hfb xv.toList yv.toList w hf
                  simpa [mkT, hagg] using this
                split at h
                · rename_i b hb
                  cases h
                  refine ⟨.bool b, ?_, avlit rfl⟩
                  simp only [execOp, he, hxr, hyr, Sem.run_bind, hg, Result.andThen_ok, run_eql_struct, fin b hb, Sem.run_pure]
                · rename_i b hb
                  cases h
                  refine ⟨.bool (!b), ?_, avlit rfl⟩
                  simp only [execOp, he, hxr, hyr, Sem.run_bind, hg, Result.andThen_ok, run_neq_struct, fin b hb, Sem.run_pure]
                · cases h
            · exact (hn hflat).elim
      · cases h
    · cases h
  · rename_i op t x he
    have hx := hev x
    obtain ⟨v, hv, e⟩ := Option.map_eq_some_iff.1 h
    cases e
    unfold unAV at hv
    split at hv
    · rename_i k m hxe
      rw [hxe] at hx
      have hx' := lit_rel hx
      cases op <;> simp at hv <;> subst hv
      exact ⟨_, by simp [execOp, he, hx', Op.unary, Op.intArith], avlit rfl⟩
    · rename_i b hxe
      rw [hxe] at hx
      have hx' := lit_rel hx
      cases op <;> simp at hv <;> subst hv
      exact ⟨_, by simp [execOp, he, hx', Op.unary], avlit rfl⟩
    · cases hv
  · rename_i src dst x he
    obtain ⟨v, hv, e⟩ := Option.map_eq_some_iff.1 h
    cases e
    obtain ⟨y, h1, h2⟩ := conv_sound hr hv (hev x)
    exact ⟨y, by simp [execOp, he, h1], h2⟩
  · rename_i t x lo hi mx he
    split at h
    · rename_i i hi'
      have hx := hev x
      obtain ⟨l1, l2⟩ := opt_rel hev lo
      obtain ⟨h1, h2⟩ := opt_rel hev hi
      obtain ⟨m1, m2⟩ := opt_rel hev mx
      unfold sliceAV at h
      split at h
      · rename_i hs
        have hu := (tiOf_spec hi').string hs
        split at h
        · rename_i s hxe hmx
          rw [hxe] at hx
          have hx' := lit_rel hx
          have hmx' := m2 hmx
          split at h
          · rename_i l hh hl hhh
            cases h
            obtain ⟨q0, q1, q2⟩ := hp'
            refine ⟨.string (s.extract l.toNat hh.toNat), ?_, avlit rfl⟩
            simp only [execOp, he, hx', hmx', run_sliceAt_string w t _ _ _ _ hu, Sem.run_bind]
            rcases bound_cases hl l1 l2 with ⟨hlo, rfl⟩ | ⟨kl, hlo⟩ <;> rcases bound_cases hhh h1 h2 with ⟨hhi, rfl⟩ | ⟨kh, hhi⟩
            · simp [Instr.slice, run_underlying hu, hlo, hhi, Instr.sliceBounds]
            · simp [Instr.slice, run_underlying hu, hlo, hhi, Instr.sliceBounds, run_sliceBound' (P := P) (w := w) kh hh s.size .sliceAlen (by omega) q2]
            · simp [Instr.slice, run_underlying hu, hlo, hhi, Instr.sliceBounds, run_sliceBound' (P := P) (w := w) kl l s.size .sliceB q0 (by omega)]
            · simp [Instr.slice, run_underlying hu, hlo, hhi, Instr.sliceBounds, run_sliceBound' (P := P) (w := w) kh hh s.size .sliceAlen (by omega) q2, run_sliceBound' (P := P) (w := w) kl l hh.toNat .sliceB q0 (by omega)]
          · cases h
        · cases h
      · rename_i e hs
        have hu := (tiOf_spec hi').slice hs
        split at h
        · rename_i j hj
          split at h
          · rename_i rows hxe
            rw [hxe] at hx
            cases hxv : ρ x with
            | slice a len cap =>
              rw [hxv] at hx
              cases hx with | one hc => cases hc with | v hc =>
              have hlen : len = rows.length := by cases hc <;> rfl
              subst hlen
              obtain ⟨z, hz1, hz2⟩ := slice_rows_sound hu hj hc h hp' l1 l2 h1 h2 m1 m2
              exact ⟨z, by simp [execOp, he, hxv, hz1], hz2⟩
            | _ => rw [hxv] at hx; cases hx with | one hc => cases hc with | v hc => cases hc
          · rename_i rows hxe
            rw [hxe] at hx
            cases hxv : ρ x with
            | slice a len cap =>
              rw [hxv] at hx
              cases hx with | one hc => cases hc with | full hc =>
              obtain ⟨z, hz1, hz2⟩ := slice_rows_sound hu hj hc h hp' l1 l2 h1 h2 m1 m2
              exact ⟨z, by simp [execOp, he, hxv, hz1], hz2⟩
            | _ => rw [hxv] at hx; cases hx with | one hc => cases hc
          · rename_i hxe
            rw [hxe] at hx
            cases hxv : ρ x with
            | slice a len cap =>
              rw [hxv] at hx
              cases hx with | one hc => cases hc with | nil =>
              obtain ⟨z, hz1, hz2⟩ := slice_rows_sound (a := none) (cap := 0) (rows := []) hu hj .nil h hp' l1 l2 h1 h2 m1 m2
              have hz1' : (Instr.sliceAt t (.slice none 0 0) (lo.map ρ) (hi.map ρ) (mx.map ρ)).run P w = .ok z w := hz1
              exact ⟨z, by simp [execOp, he, hxv, hz1'], hz2⟩
            | _ => rw [hxv] at hx; cases hx with | one hc => cases hc
          · rename_i i' k off len c hxe
            split at h
            · rename_i hk
              subst hk
              rw [hxe] at hx
              cases hx with | one hc =>
              obtain ⟨z, hz1, hz2⟩ := slice_sub_sound hu hj hc h hp' l1 l2 h1 h2 m1 m2
              exact ⟨z, by simp [execOp, he, hz1], hz2⟩
            · cases h
          · cases h
        · cases h
      · cases h
    · cases h
  · rename_i t x f he
    split at h
    · rename_i i hi
      obtain ⟨v, hv, e⟩ := Option.map_eq_some_iff.1 h
      cases e
      obtain ⟨y, h1, h2⟩ := fieldAddr_sound hi hv (hev x)
      exact ⟨y, by simp [execOp, he, h1], h2⟩
    · cases h
  · rename_i t x f he
    split at h
    · rename_i i hi
      obtain ⟨v, hv, e⟩ := Option.map_eq_some_iff.1 h
      cases e
      obtain ⟨y, h1, h2⟩ := field_sound hi hv (hev x)
      exact ⟨y, by simp [execOp, he, h1], h2⟩
    · cases h
  · rename_i t x ix he
    split at h
    · rename_i i m hi hm
      obtain ⟨k, hk⟩ := intOfAV_rel hm (hev ix)
      obtain ⟨y, h1, h2⟩ := indexAddr_sound hr hi h hp' (hev x) hk
      exact ⟨y, by simp [execOp, he, h1], h2⟩
    · cases h
  · rename_i t x ix he
    split at h
    · rename_i i m hi hm
      obtain ⟨k, hk⟩ := intOfAV_rel hm (hev ix)
      obtain ⟨y, h1, h2⟩ := index_sound hi h hp' (hev x) hk
      exact ⟨y, by simp [execOp, he, h1], h2⟩
    · cases h
  · rename_i t i he
    split at h
    · rename_i l hl
      obtain ⟨v, hv, e⟩ := Option.map_eq_some_iff.1 h
      cases e
      have hx := hev t
      rw [hl] at hx
      cases hxv : ρ t with
      | tuple xs =>
        rw [hxv] at hx
        cases hx with | tup hx =>
        obtain ⟨x, hx1, hx2⟩ := avrels_get hx hv
        refine ⟨x, ?_, hx2⟩
        have : xs[i]? = some x := by simpa using hx1
        simp [execOp, he, hxv, Instr.extract, this]
      | _ => rw [hxv] at hx; cases hx
    · cases h
  · rename_i x he
    have hx := hev x
    split at h
    · rename_i hxe; cases h; rw [hxe] at hx
      refine ⟨ρ x, ?_, hx⟩
      cases hxv : ρ x <;> rw [hxv] at hx <;> first
        | (cases hx with | one hc => cases hc; simp [execOp, he, hxv])
        | (cases hx with | one hc => cases hc)
    · rename_i hxe; cases h; rw [hxe] at hx
      refine ⟨ρ x, ?_, hx⟩
      cases hxv : ρ x <;> rw [hxv] at hx <;> first
        | (cases hx with | one hc => cases hc; simp [execOp, he, hxv])
        | (cases hx with | one hc => cases hc)
    · rename_i hxe; cases h; rw [hxe] at hx
      refine ⟨ρ x, ?_, hx⟩
      cases hxv : ρ x <;> rw [hxv] at hx <;> first
        | (cases hx with | one hc => cases hc; simp [execOp, he, hxv])
        | (cases hx with | one hc => cases hc)
    · rename_i hxe; cases h; rw [hxe] at hx
      refine ⟨ρ x, ?_, hx⟩
      cases hxv : ρ x <;> rw [hxv] at hx <;> first
        | (cases hx; simp [execOp, he, hxv])
        | (cases hx)
    · cases h
  · rename_i f first caps he
    split at h
    · rename_i a b ha hb
      cases h
      exact ⟨.func (.func f) (first.map ρ) (caps.map ρ), by simp [execOp, he, Instr.makeFunc], .fn (by simpa using avCs_rel hev ha) (by simpa using avCs_rel hev hb)⟩
    · cases h
  · rename_i t parts he
    split at h
    · rename_i i hi
      split at h
      · rename_i hg
        obtain ⟨cs, hcs, e⟩ := Option.map_eq_some_iff.1 h
        cases e
        obtain ⟨y, h1, h2⟩ := build_sound (vals := parts.map fun (k, x) => (k, ρ x)) hi hcs hg (by simpa using parts_rel hev parts.toList)
        exact ⟨y, by simp [execOp, he, h1], h2⟩
      · cases h
    · cases h
  · rename_i t x k okk he
    obtain ⟨y, h1, h2⟩ := look_sound hr (hev x) (hev k) h
    exact ⟨y, by simp [execOp, he, h1], h2⟩
  · rename_i args ts he
    split at h
    · rename_i x t hargs hts
      obtain rfl : args = #[x] := by apply Array.ext'; simpa using hargs
      obtain rfl : ts = #[t] := by apply Array.ext'; simpa using hts
      have hx := hev x
      split at h
      · rename_i hs
        obtain ⟨i, hi, hi'⟩ := Option.map_eq_some_iff.1 hs
        have hu := (tiOf_spec hi).string hi'
        split at h
        · rename_i s hxe
          cases h
          rw [hxe] at hx
          have hx' := lit_rel hx
          exact ⟨_, by simp [execOp, he, resolve, invoke, builtin, hx', run_len_string hu], avlit rfl⟩
        · cases h
      · rename_i e hs
        obtain ⟨i, hi, hi'⟩ := Option.map_eq_some_iff.1 hs
        have hu := (tiOf_spec hi).slice hi'
        split at h
        · rename_i i' k off len c hxe
          cases h
          rw [hxe] at hx
          cases hx with | one hc => cases hc with | sub _ _ _ _ hμ hs =>
          obtain ⟨a, hxv⟩ := sub_len hs
          exact ⟨_, by simp [execOp, he, resolve, invoke, builtin, hxv, run_len_slice hu], avlit rfl⟩
        obtain ⟨rows, hrows, e'⟩ := Option.map_eq_some_iff.1 h
        cases e'
        obtain ⟨a, cap, hxv⟩ := (rowsOf_rel hr hrows hx).len
        exact ⟨_, by simp [execOp, he, resolve, invoke, builtin, hxv, run_len_slice hu], avlit rfl⟩
      · rename_i q e hs
        cases h
        obtain ⟨i, hi, hi'⟩ := Option.map_eq_some_iff.1 hs
        have hu := (tiOf_spec hi).array hi'
        exact ⟨_, by simp [execOp, he, resolve, invoke, builtin, run_len_array hu], avlit rfl⟩
      · unfold mpLen at h
        split at h
        · rename_i e i hm hxe
          split at h
          · rename_i u es hi
            cases h
            obtain ⟨k, e', _, hu, _⟩ := mapTy_spec hm
            rw [hxe] at hx
            obtain ⟨m, hμ, hb⟩ := hr.rel _ _ hi
            obtain ⟨xv, hxv⟩ : ∃ xv, ρ x = xv := ⟨_, rfl⟩
            rw [hxv] at hx
            cases hx with | one hc => cases hc with | mp hc =>
            rw [hc] at hμ; cases hμ
            obtain ⟨ms, clock, h1, h2, _⟩ := hb
            have hlen : ms.size = es.length := by have := congrArg List.length h2; simpa using this
            exact ⟨_, by simp [execOp, he, resolve, invoke, builtin, hxv, run_len_map hu h1, hlen], avlit rfl⟩
          · cases h
        · cases h
      · cases h
    · cases h
  · rename_i args ts he
    obtain ⟨v, hv, e⟩ := Option.map_eq_some_iff.1 h
    cases e
    obtain ⟨k, k', a, b, hl, rfl⟩ := minmax_rel hv (avrels_map hev args.toList)
    refine ⟨_, ?_, avlit rfl⟩
    simp only [execOp, he, resolve, invoke, builtin, Sem.run_bind, Sem.run_pure, Result.andThen_ok, Builtin.min_, Array.toList_map, hl]
    simp [Builtin.min2]
  · rename_i args ts he
    obtain ⟨v, hv, e⟩ := Option.map_eq_some_iff.1 h
    cases e
    obtain ⟨k, k', a, b, hl, rfl⟩ := minmax_rel hv (avrels_map hev args.toList)
    refine ⟨_, ?_, avlit rfl⟩
    simp only [execOp, he, resolve, invoke, builtin, Sem.run_bind, Sem.run_pure, Result.andThen_ok, Builtin.max_, Array.toList_map, hl]
    simp [Builtin.max2]
  · cases h
end
end Go.Proofs.AE
set_option linter.unusedVariables false
set_option linter.unusedSimpArgs false
namespace Go.Proofs.AE
open Go Go.RowKit
def OwnL (hp : Hp) (μ : List MB) (b : Nat) : Prop := ∃ (i : Nat) (blk : Blk) (m : MB), hp[i]? = some (some blk) ∧ μ[i]? = some m ∧ m.own = some b
structure Step (w : World) (ok : Nat → Prop) (μ : List MB) (hp : Hp) (w' : World) (ok' : Nat → Prop) (μ' : List MB) (hp' : Hp) : Prop where
  hr : HR w' ok' μ' hp'
  os : w'.os = w.os
  tape : w'.tape = w.tape
  output : w'.output = w.output
  size : w.heap.size ≤ w'.heap.size
  frame : ∀ b, b < w.heap.size → ¬ OwnL hp μ b → w'.heap[b]? = w.heap[b]?
  oksub : ∀ b, ok b → ok' b
  okfrom : ∀ b, ok' b → ok b ∨ w.heap.size ≤ b ∨ OwnL hp μ b
  ownfrom : ∀ b, OwnL hp' μ' b → w.heap.size ≤ b ∨ OwnL hp μ b
  ext : ∀ (i : Nat) m, μ[i]? = some m → μ'[i]? = some m
section
variable {P : Program} {n : Nat} {w w' : World} {ok ok' : Nat → Prop} {μ μ' : List MB} {hp hp' : Hp}
theorem HR.keep (hr : HR w ok μ hp) {b : Nat} (h : ok b) : b < w.heap.size ∧ ¬ OwnL hp μ b :=
  ⟨(hr.okn b h).1, fun ⟨i, blk, m, h1, h2, h3⟩ => (hr.okn b h).2 i blk m h1 h2 h3⟩
theorem Step.keep (hr : HR w ok μ hp) (h : Step w ok μ hp w' ok' μ' hp') (b : Nat) (hb : ok b) : w'.heap[b]? = w.heap[b]? :=
  h.frame b (hr.keep hb).1 (hr.keep hb).2
theorem Step.refl (hr : HR w ok μ hp) : Step w ok μ hp w ok μ hp :=
  ⟨hr, rfl, rfl, rfl, Nat.le_refl _, fun _ _ _ => rfl, fun _ h => h, fun _ h => .inl h, fun _ h => .inr h, fun _ _ h => h⟩
theorem Step.trans {w'' : World} {ok'' : Nat → Prop} {μ'' : List MB} {hp'' : Hp} (h : Step w ok μ hp w' ok' μ' hp') (h' : Step w' ok' μ' hp' w'' ok'' μ'' hp'') : Step w ok μ hp w'' ok'' μ'' hp'' where
  hr := h'.hr
  os := h'.os.trans h.os
  tape := h'.tape.trans h.tape
  output := h'.output.trans h.output
  size := Nat.le_trans h.size h'.size
  frame b hb hn := by
    rw [h'.frame b (Nat.lt_of_lt_of_le hb h.size) (fun ho => by rcases h.ownfrom b ho with h1 | h1; omega; exact hn h1), h.frame b hb hn]
  oksub b hb := h'.oksub b (h.oksub b hb)
  okfrom b hb := by
    rcases h'.okfrom b hb with h1 | h1 | h1
    · exact h.okfrom b h1
    · exact .inr (.inl (Nat.le_trans h.size h1))
    · rcases h.ownfrom b h1 with h2 | h2
      · exact .inr (.inl h2)
      · exact .inr (.inr h2)
  ownfrom b hb := by
    rcases h'.ownfrom b hb with h1 | h1
    · exact .inl (Nat.le_trans h.size h1)
    · exact h.ownfrom b h1
  ext i m hm := h'.ext i m (h.ext i m hm)
theorem Step.av (hr : HR w ok μ hp) (h : Step w ok μ hp w' ok' μ' hp') {v : AV} {x : Value} (hv : AVRel w ok μ v x) : AVRel w' ok' μ' v x :=
  (hv.mono (h.keep hr) h.oksub).ext h.ext
theorem Step.c (hr : HR w ok μ hp) (h : Step w ok μ hp w' ok' μ' hp') {v : C} {x : Value} (hv : CRel w ok μ v x) : CRel w' ok' μ' v x :=
  (hv.mono (h.keep hr) h.oksub).ext h.ext
theorem BRel.mono (hw : ∀ b, ok b → w'.heap[b]? = w.heap[b]?) (ho : ∀ b, ok b → ok' b) (hm : ∀ (i : Nat) m, μ[i]? = some m → μ'[i]? = some m) {blk : Blk} {m : MB} (h : BRel w ok μ blk m)
    (hb : ∀ b, m.own = some b → w'.heap[b]? = w.heap[b]?) : BRel w' ok' μ' blk m := by
  cases blk with
  | box t cs =>
    cases m with
    | box b =>
      obtain ⟨xs, h1, h2⟩ := h
      exact ⟨xs, by rw [hb b rfl]; exact h1, h2.mono fun _ _ h => (h.mono hw ho).ext hm⟩
    | arr => exact h.elim
  | arr e k rows =>
    cases m with
    | box => exact h.elim
    | arr x =>
      obtain ⟨xs, h1, h2, h3⟩ := h
      refine ⟨xs, ⟨h1.1, ?_⟩, h2.mono fun _ _ h => h.mono hw ho, h3⟩
      rcases h1.2 with hn | ⟨g, cap, cur, rfl, hg, hh, r⟩
      · exact .inl hn
      · exact .inr ⟨g, cap, cur, rfl, hg, by rw [hb g rfl]; exact hh, r⟩
  | arj e k c rows =>
    cases m with
    | box => exact h.elim
    | arr x =>
      obtain ⟨h0, h00, h1⟩ := h
      refine ⟨h0, h00, ?_⟩
      rcases h1 with hn | ⟨g, n, cur, rfl, h2, h3, h4, h5, h6⟩
      · exact .inl hn
      · exact .inr ⟨g, n, cur, rfl, by rw [hb g rfl]; exact h2, h3, h4, h5, h6.mono fun _ _ h => h.mono hw ho⟩
  | mp t es =>
    cases m with
    | box b => obtain ⟨ms, clock, h1, h2⟩ := h; exact ⟨ms, clock, by rw [hb b rfl]; exact h1, h2⟩
    | arr => exact h.elim
theorem BRel.lt {blk : Blk} {m : MB} (h : BRel w ok μ blk m) {b : Nat} (hb : m.own = some b) : b < w.heap.size := by
  cases blk with
  | box t cs =>
    cases m with
    | box b' => cases hb; obtain ⟨xs, h1, _⟩ := h; exact (Array.getElem?_eq_some_iff.1 h1).1
    | arr => exact h.elim
  | arr e k rows =>
    cases m with
    | box => exact h.elim
    | arr x => obtain ⟨xs, h1, _⟩ := h; exact (h1.lt b hb).2
  | arj e k c rows =>
    cases m with
    | box => exact h.elim
    | arr x =>
      rcases h.2.2 with ⟨rfl, _⟩ | ⟨g, n, cur, rfl, h2, _⟩
      · cases hb
      · cases hb; exact (Array.getElem?_eq_some_iff.1 h2).1
  | mp t es =>
    cases m with
    | box b' => cases hb; obtain ⟨ms, clock, h1, _⟩ := h; exact (Array.getElem?_eq_some_iff.1 h1).1
    | arr => exact h.elim
theorem HR.own_lt (hr : HR w ok μ hp) {b : Nat} (h : OwnL hp μ b) : b < w.heap.size := by
  obtain ⟨i, blk, m, h1, h2, h3⟩ := h
  obtain ⟨m', h4, h5⟩ := hr.rel i blk h1
  rw [h2] at h4; cases h4
  exact h5.lt h3
theorem own_append {hp : Hp} {μ : List MB} (hl : μ.length = hp.length) {x : Option Blk} {m : MB} {b : Nat} (h : OwnL (hp ++ [x]) (μ ++ [m]) b) : OwnL hp μ b ∨ (m.own = some b) := by
  obtain ⟨i, blk, m', h1, h2, h3⟩ := h
  by_cases hi : i < hp.length
  · rw [List.getElem?_append_left hi] at h1
    rw [List.getElem?_append_left (by omega)] at h2
    exact .inl ⟨i, blk, m', h1, h2, h3⟩
  · have : i = hp.length := by have := lt_of_getElem? h1; simp at this; omega
    subst this
    rw [← hl] at h2
    simp at h2; subst h2
    exact .inr h3
theorem step_new (hr : HR w ok μ hp) {blk : Blk} {m : MB}
    (hos : w'.os = w.os) (htape : w'.tape = w.tape) (hout : w'.output = w.output) (hsize : w.heap.size ≤ w'.heap.size)
    (hframe : ∀ b, b < w.heap.size → w'.heap[b]? = w.heap[b]?)
    (hm : BRel w' ok (μ ++ [m]) blk m) (hfresh : ∀ b, m.own = some b → w.heap.size ≤ b) : Step w ok μ hp w' ok (μ ++ [m]) (hp ++ [some blk]) := by
  have hext : ∀ (i : Nat) q, μ[i]? = some q → (μ ++ [m])[i]? = some q := fun i q h => by rw [List.getElem?_append_left (lt_of_getElem? h)]; exact h
  have hkeep : ∀ b, ok b → w'.heap[b]? = w.heap[b]? := fun b hb => hframe b (hr.keep hb).1
  refine ⟨⟨by simp [hr.len], ?_, ?_, ?_⟩, hos, htape, hout, hsize, fun b hb _ => hframe b hb, fun _ h => h, fun _ h => .inl h, ?_, hext⟩
  · intro i b hb
    by_cases hi : i < hp.length
    · rw [List.getElem?_append_left hi] at hb
      obtain ⟨q, h1, h2⟩ := hr.rel i b hb
      exact ⟨q, hext i q h1, h2.mono hkeep (fun _ h => h) hext fun b' hb' => hframe b' (h2.lt hb')⟩
    · have : i = hp.length := by have := lt_of_getElem? hb; simp at this; omega
      subst this
      simp at hb; subst hb
      exact ⟨m, by rw [← hr.len]; simp, hm⟩
  · intro i j b c q r k hij hb hc hq hr' hk hk'
    by_cases hi : i < hp.length <;> by_cases hj : j < hp.length
    · rw [List.getElem?_append_left hi] at hb
      rw [List.getElem?_append_left hj] at hc
      rw [List.getElem?_append_left (by rw [hr.len]; exact hi)] at hq
      rw [List.getElem?_append_left (by rw [hr.len]; exact hj)] at hr'
      exact hr.inj i j b c q r k hij hb hc hq hr' hk hk'
    · have : j = hp.length := by have := lt_of_getElem? hc; simp at this; omega
      subst this
      rw [← hr.len] at hr'; simp at hr'; subst hr'
      rw [List.getElem?_append_left hi] at hb
      rw [List.getElem?_append_left (by rw [hr.len]; exact hi)] at hq
      have h1 := hr.own_lt ⟨i, b, q, hb, hq, hk⟩
      have h2 := hfresh k hk'
      omega
    · have : i = hp.length := by have := lt_of_getElem? hb; simp at this; omega
      subst this
      rw [← hr.len] at hq; simp at hq; subst hq
      rw [List.getElem?_append_left hj] at hc
      rw [List.getElem?_append_left (by rw [hr.len]; exact hj)] at hr'
      have h1 := hr.own_lt ⟨j, c, r, hc, hr', hk'⟩
      have h2 := hfresh k hk
      omega
    · have h1 : i = hp.length := by have := lt_of_getElem? hb; simp at this; omega
      have h2 : j = hp.length := by have := lt_of_getElem? hc; simp at this; omega
      omega
  · intro k hk
    refine ⟨Nat.lt_of_lt_of_le (hr.keep hk).1 hsize, fun i b q hb hq ho => ?_⟩
    rcases own_append hr.len ⟨i, b, q, hb, hq, ho⟩ with h1 | h1
    · exact (hr.keep hk).2 h1
    · have := hfresh k h1; have := (hr.keep hk).1; omega
  · intro b hb
    rcases own_append hr.len hb with h1 | h1
    · exact .inr h1
    · exact .inl (hfresh b h1)
theorem getElem?_set_cases {α : Type} {l : List α} {i j : Nat} {a b : α} (h : (l.set i a)[j]? = some b) : (j = i ∧ b = a) ∨ (j ≠ i ∧ l[j]? = some b) := by
  rw [List.getElem?_set] at h
  by_cases hij : i = j
  · subst hij
    simp at h
    exact .inl ⟨rfl, h.2.symm⟩
  · rw [if_neg hij] at h
    exact .inr ⟨fun e => hij e.symm, h⟩
theorem step_set (hr : HR w ok μ hp) {i : Nat} {blk blk' : Blk} {m : MB} (hi : hp[i]? = some (some blk)) (hm : μ[i]? = some m)
    (hos : w'.os = w.os) (htape : w'.tape = w.tape) (hout : w'.output = w.output) (hsize : w'.heap.size = w.heap.size)
    (hframe : ∀ b, m.own ≠ some b → w'.heap[b]? = w.heap[b]?)
    (hb : BRel w' ok μ blk' m) : Step w ok μ hp w' ok μ (hp.set i (some blk')) := by
  have hkeep : ∀ b, ok b → w'.heap[b]? = w.heap[b]? := fun b hb => hframe b ((hr.okn b hb).2 i blk m hi hm)
  have hown : ∀ b, OwnL (hp.set i (some blk')) μ b → OwnL hp μ b := by
    rintro b ⟨j, c, q, h1, h2, h3⟩
    rcases getElem?_set_cases h1 with ⟨rfl, _⟩ | ⟨_, h4⟩
    · exact ⟨j, blk, q, hi, h2, h3⟩
    · exact ⟨j, c, q, h4, h2, h3⟩
  refine ⟨⟨by simp [hr.len], ?_, ?_, ?_⟩, hos, htape, hout, by omega, ?_, fun _ h => h, fun _ h => .inl h, fun b h => .inr (hown b h), fun _ _ h => h⟩
  · intro j c hc
    rcases getElem?_set_cases hc with ⟨rfl, h1⟩ | ⟨hj, h4⟩
    · cases h1; exact ⟨m, hm, hb⟩
    · obtain ⟨q, h1, h2⟩ := hr.rel j c h4
      exact ⟨q, h1, h2.mono hkeep (fun _ h => h) (fun _ _ h => h) fun b' hb' => hframe b' (fun e => hr.inj j i c blk q m b' hj h4 hi h1 hm hb' e)⟩
  · intro i1 j1 b c q r k hij h1 h2 hq hr' hk
    have f : ∀ (x : Nat) z, (hp.set i (some blk'))[x]? = some (some z) → ∃ z', hp[x]? = some (some z') := by
      intro x z hx
      rcases getElem?_set_cases hx with ⟨rfl, _⟩ | ⟨_, h4⟩
      · exact ⟨blk, hi⟩
      · exact ⟨z, h4⟩
    obtain ⟨b', hb'⟩ := f _ _ h1
    obtain ⟨c', hc'⟩ := f _ _ h2
    exact hr.inj i1 j1 b' c' q r k hij hb' hc' hq hr' hk
  · intro k hk
    refine ⟨by rw [hsize]; exact (hr.keep hk).1, fun j c q h1 h2 h3 => (hr.keep hk).2 (hown k ⟨j, c, q, h1, h2, h3⟩)⟩
  · intro b hb hn
    exact hframe b fun e => hn ⟨i, blk, m, hi, hm, e⟩
theorem step_drop (hr : HR w ok μ hp) (i : Nat) : Step w ok μ hp w ok μ (hp.set i none) := by
  have f : ∀ (x : Nat) z, (hp.set i none)[x]? = some (some z) → hp[x]? = some (some z) := by
    intro x z hx
    rcases getElem?_set_cases hx with ⟨rfl, h⟩ | ⟨_, h4⟩
    · cases h
    · exact h4
  have hown : ∀ b, OwnL (hp.set i none) μ b → OwnL hp μ b := fun b ⟨j, c, q, h1, h2, h3⟩ => ⟨j, c, q, f _ _ h1, h2, h3⟩
  refine ⟨⟨by simp [hr.len], fun j c hc => hr.rel j c (f _ _ hc), fun i1 j1 b c q r k hij h1 h2 => hr.inj i1 j1 b c q r k hij (f _ _ h1) (f _ _ h2), fun k hk => ⟨(hr.keep hk).1, fun j c q h1 => (hr.okn k hk).2 j c q (f _ _ h1)⟩⟩,
    rfl, rfl, rfl, Nat.le_refl _, fun _ _ _ => rfl, fun _ h => h, fun _ h => .inl h, fun b h => .inr (hown b h), fun _ _ h => h⟩
theorem step_move (hr : HR w ok μ hp) {i : Nat} {blk blk' : Blk} {m m' : MB} (hi : hp[i]? = some (some blk)) (hm : μ[i]? = some m)
    (hos : w'.os = w.os) (htape : w'.tape = w.tape) (hout : w'.output = w.output) (hsize : w.heap.size ≤ w'.heap.size)
    (hframe : ∀ b, b < w.heap.size → m.own ≠ some b → w'.heap[b]? = w.heap[b]?)
    (hb : BRel w' ok (μ ++ [m']) blk' m') (hfrom : ∀ b, m'.own = some b → m.own = some b ∨ w.heap.size ≤ b) : Step w ok μ hp w' ok (μ ++ [m']) (hp.set i none ++ [some blk']) := by
  have hext : ∀ (i : Nat) q, μ[i]? = some q → (μ ++ [m'])[i]? = some q := fun i q h => by rw [List.getElem?_append_left (lt_of_getElem? h)]; exact h
  have hkeep : ∀ b, ok b → w'.heap[b]? = w.heap[b]? := fun b hb => hframe b (hr.keep hb).1 ((hr.okn b hb).2 i blk m hi hm)
  have hlen : (hp.set i none).length = hp.length := by simp
  have f : ∀ (x : Nat) z, (hp.set i none ++ [some blk'])[x]? = some (some z) → (x < hp.length ∧ x ≠ i ∧ hp[x]? = some (some z)) ∨ (x = hp.length ∧ z = blk') := by
    intro x z hx
    by_cases hxl : x < hp.length
    · rw [List.getElem?_append_left (by simpa using hxl)] at hx
      rcases getElem?_set_cases hx with ⟨rfl, h⟩ | ⟨h3, h4⟩
      · cases h
      · exact .inl ⟨hxl, h3, h4⟩
    · have : x = hp.length := by have := lt_of_getElem? hx; simp at this; omega
      subst this
      rw [← hlen] at hx
      simp only [List.getElem?_append_right (Nat.le_refl _), Nat.sub_self, List.getElem?_cons_zero] at hx
      cases hx; exact .inr ⟨rfl, rfl⟩
  have fm : ∀ (x : Nat) q, x < hp.length → (μ ++ [m'])[x]? = some q → μ[x]? = some q := fun x q h1 h2 => by rwa [List.getElem?_append_left (by rw [hr.len]; exact h1)] at h2
  have fl : ∀ q, (μ ++ [m'])[hp.length]? = some q → q = m' := fun q h => by rw [← hr.len] at h; simpa using h.symm
  have hown : ∀ b, OwnL (hp.set i none ++ [some blk']) (μ ++ [m']) b → w.heap.size ≤ b ∨ OwnL hp μ b := by
    rintro b ⟨j, c, q, h1, h2, h3⟩
    rcases f j c h1 with ⟨h4, _, h5⟩ | ⟨rfl, rfl⟩
    · exact .inr ⟨j, c, q, h5, fm j q h4 h2, h3⟩
    · obtain rfl := fl q h2
      rcases hfrom b h3 with h6 | h6
      · exact .inr ⟨i, blk, m, hi, hm, h6⟩
      · exact .inl h6
  refine ⟨⟨by simp [hr.len], ?_, ?_, ?_⟩, hos, htape, hout, hsize, ?_, fun _ h => h, fun _ h => .inl h, hown, hext⟩
  · intro j c hc
    rcases f j c hc with ⟨h4, h6, h5⟩ | ⟨rfl, rfl⟩
    · obtain ⟨q, h1, h2⟩ := hr.rel j c h5
      exact ⟨q, hext j q h1, h2.mono hkeep (fun _ h => h) hext fun b' hb' => hframe b' (h2.lt hb') fun e => hr.inj j i c blk q m b' h6 h5 hi h1 hm hb' e⟩
    · exact ⟨m', by rw [← hr.len]; simp, hb⟩
  · intro i1 j1 b c q r k hij h1 h2 hq hr' hk hk'
    rcases f i1 b h1 with ⟨a1, a2, a3⟩ | ⟨rfl, rfl⟩ <;> rcases f j1 c h2 with ⟨b1, b2, b3⟩ | ⟨rfl, rfl⟩
    · exact hr.inj i1 j1 b c q r k hij a3 b3 (fm _ _ a1 hq) (fm _ _ b1 hr') hk hk'
    · obtain rfl := fl r hr'
      have hq' := fm _ _ a1 hq
      rcases hfrom k hk' with h6 | h6
      · exact hr.inj i1 i b blk q m k a2 a3 hi hq' hm hk h6
      · have := hr.own_lt ⟨i1, b, q, a3, hq', hk⟩; omega
    · obtain rfl := fl q hq
      have hq' := fm _ _ b1 hr'
      rcases hfrom k hk with h6 | h6
      · exact hr.inj j1 i c blk r m k b2 b3 hi hq' hm hk' h6
      · have := hr.own_lt ⟨j1, c, r, b3, hq', hk'⟩; omega
    · exact hij rfl
  · intro k hk
    refine ⟨Nat.lt_of_lt_of_le (hr.keep hk).1 hsize, fun j c q h1 h2 h3 => ?_⟩
    rcases hown k ⟨j, c, q, h1, h2, h3⟩ with h4 | h4
    · have := (hr.keep hk).1; omega
    · exact (hr.keep hk).2 h4
  · intro b hb hn
    exact hframe b hb fun e => hn ⟨i, blk, m, hi, hm, e⟩
theorem step_freeze (hr : HR w ok μ hp) {i : Nat} {m : MB} (hi : ∃ blk, hp[i]? = some (some blk)) (hm : μ[i]? = some m) : Step w ok μ hp w (fun b => ok b ∨ m.own = some b) μ (hp.set i none) := by
  obtain ⟨blk, hi⟩ := hi
  have f : ∀ (x : Nat) z, (hp.set i none)[x]? = some (some z) → x ≠ i ∧ hp[x]? = some (some z) := by
    intro x z hx
    rcases getElem?_set_cases hx with ⟨rfl, h⟩ | ⟨h3, h4⟩
    · cases h
    · exact ⟨h3, h4⟩
  have hown : ∀ b, OwnL (hp.set i none) μ b → OwnL hp μ b := fun b ⟨j, c, q, h1, h2, h3⟩ => ⟨j, c, q, (f _ _ h1).2, h2, h3⟩
  refine ⟨⟨by simp [hr.len], fun j c hc => ?_, fun i1 j1 b c q r k hij h1 h2 => hr.inj i1 j1 b c q r k hij (f _ _ h1).2 (f _ _ h2).2, fun k hk => ?_⟩,
    rfl, rfl, rfl, Nat.le_refl _, fun _ _ _ => rfl, fun _ h => .inl h, fun b h => ?_, fun b h => .inr (hown b h), fun _ _ h => h⟩
  · obtain ⟨q, h1, h2⟩ := hr.rel j c (f _ _ hc).2
    exact ⟨q, h1, h2.mono (fun _ _ => rfl) (fun _ h => .inl h) (fun _ _ h => h) fun _ _ => rfl⟩
  · rcases hk with hk | hk
    · exact ⟨(hr.keep hk).1, fun j c q h1 => (hr.okn k hk).2 j c q (f _ _ h1).2⟩
    · refine ⟨hr.own_lt ⟨i, blk, m, hi, hm, hk⟩, fun j c q h1 h2 h3 => ?_⟩
      exact hr.inj j i c blk q m k (f _ _ h1).1 (f _ _ h1).2 hi h2 hm h3 hk
  · rcases h with h | h
    · exact .inl h
    · exact .inr (.inr ⟨i, blk, m, hi, hm, h⟩)
end
end Go.Proofs.AE
set_option linter.unusedVariables false
set_option linter.unusedSimpArgs false
namespace Go.Proofs.AE
open Go Go.RowKit
def vsOf : List C → Option (List V)
  | [] => some []
  | .v d :: r => (vsOf r).map (d :: ·)
  | .full rows :: r => (vsOf r).map (.sl rows :: ·)
  | .nil :: r => (vsOf r).map (.sl [] :: ·)
  | _ => none
def boxCells : AV → Option (List C)
  | .one c => some [c]
  | .agg cs => some cs
  | .fn _ _ _ => some [.any]
  | _ => none
def partRows (k : Nat) : Nat → List (Nat × AV) → Option (List (List V))
  | _, [] => some []
  | i, (j, v) :: r =>
    if j = i then
      match cellsAV v with
      | some cs => if cs.length = k then match vsOf cs, partRows k (i + 1) r with | some a, some b => some (a :: b) | _, _ => none else none
      | none => none
    else none
def strRows (s : ByteArray) : List (List V) := s.data.toList.map fun b => [.lit (.int .u8 b.toNat)]
def srcRows (hp : Hp) (u : Option Sh) (v : AV) : Option (List (List V)) :=
  match u with
  | some (.slice _) => rowsOf hp v
  | some .string => match v with | .one (.v (.lit (.string s))) => some (strRows s) | _ => none
  | _ => none
def isStrSh : Option Sh → Bool | some .string => true | _ => false
def isU8 (P : Program) (e : TypeId) : Bool := match (P.info? e).bind (·.zero) with | some (.int .u8 0) => true | _ => false
def heapOp (P : Program) (hp : Hp) (ev : Operand → AV) : Op → Option (Prop × AV × Hp)
  | .alloc t => match tiOf P t with
    | some i => some (True, .one (.ptr hp.length 0), hp ++ [some (.box t (i.zero.map vC))])
    | none => none
  | .box t x => (boxCells (ev x)).map fun cs => (True, .one (.ptr hp.length 0), hp ++ [some (.box t cs)])
  | .store t a x => match tiOf P t, boxCells (ev x) with
    | some i, some xs => if xs.length = i.size then
        match ev a with
        | .one (.ptr b off) => match hp[b]? with
          | some (some (.box u cs)) => if off + i.size ≤ cs.length then some (True, .any, hp.set b (some (.box u (cs.take off ++ xs ++ cs.drop (off + i.size))))) else none
          | _ => none
        | .one (.eptr b r k off) => match hp[b]? with
          | some (some (.arr e k' rows)) => match rows[r]?, vsOf xs with
            | some row, some vs => if k' = k ∧ off + i.size ≤ k then some (True, .any, hp.set b (some (.arr e k' (rows.set r (row.take off ++ vs ++ row.drop (off + i.size)))))) else none
            | _, _ => none
          | _ => none
        | _ => none
      else none
    | _, _ => none
  | .buildSlice t len parts => match (tiOf P t).map TI.sh with
    | some (.slice e) => match tiOf P e with
      | some j => if j.size ≠ 0 ∧ len * j.size ≤ 2 ^ 24 ∧ parts.size = len then
          (partRows j.size 0 (parts.toList.map fun (k, x) => (k, ev x))).map fun rows => (True, .one (.ar hp.length), hp ++ [some (.arr e j.size rows)])
        else none
      | none => none
    | _ => none
  | .makeSlice t l c => match (tiOf P t).map TI.sh, intOfAV (ev l), intOfAV (ev c) with
    | some (.slice e), some n, some m => match tiOf P e with
      | some j => if j.size ≠ 0 then some (n = m ∧ 0 ≤ n ∧ (j.bytes : Int) * n ≤ 281474976710656 ∧ n ≤ 9223372036854775807, .one (.ar hp.length), hp ++ [some (.arr e j.size (List.replicate n.toNat j.zero))]) else none
      | none => none
    | _, _, _ => none
  | .call { callee := .builtin .append, args := args, argTypes := ts } => match args.toList, ts.toList with
    | [s, x], [t, u] => match (tiOf P t).map TI.sh with
      | some (.slice e) => match tiOf P e, srcRows hp ((tiOf P u).map TI.sh) (ev x) with
        | some j, some new => if (j.size != 0 && (if isStrSh ((tiOf P u).map TI.sh) then j.size == 1 && j.bytes == 1 && isU8 P e else t == u)) = true then
            match ev s with
            | .one (.ar b) => match hp[b]? with
              | some (some (.arr e' k rows)) => if e' = e ∧ k = j.size then some (UL j.size new ∧ rows.length + new.length ≤ 9223372036854775807 ∧ (rows.length + new.length) * j.bytes ≤ 140737488355328, .one (.ar hp.length), hp.set b none ++ [some (.arr e k (rows ++ new))]) else none
              | _ => none
            | .one .nil => some (UL j.size new ∧ new.length ≤ 9223372036854775807 ∧ new.length * j.bytes ≤ 140737488355328, .one (.ar hp.length), hp ++ [some (.arr e j.size new)])
            | .one (.full rows) => if isStrSh ((tiOf P u).map TI.sh) then none else
              some (UL j.size new ∧ UL j.size rows ∧ 0 < new.length ∧ rows.length + new.length ≤ 9223372036854775807 ∧ (rows.length + new.length) * j.bytes ≤ 140737488355328, .one (.ar hp.length), hp ++ [some (.arr e j.size (rows ++ new))])
            | _ => none
          else none
        | _, _ => none
      | _ => none
    | _, _ => none
  | _ => none
section
variable {P : Program} {n : Nat} {w w' : World} {ok ok' : Nat → Prop} {μ μ' : List MB} {hp hp' : Hp}
theorem vsOf_rel : ∀ {cs : List C} {vs : List V} {xs : List Value}, vsOf cs = some vs → All2 (CRel w ok μ) cs xs → All2 (VRel w ok) vs xs
  | [], vs, xs, h, ha => by cases h; cases ha; exact .nil
  | c :: cs, vs, xs, h, ha => by
    cases ha with | cons hc ha =>
    cases c <;> simp only [vsOf] at h <;> first | (cases h; done) | skip
    · obtain ⟨vs', h', rfl⟩ := Option.map_eq_some_iff.1 h
      cases hc with | v hc => exact .cons hc (vsOf_rel h' ha)
    · obtain ⟨vs', h', rfl⟩ := Option.map_eq_some_iff.1 h
      cases hc with | full hc => exact .cons hc (vsOf_rel h' ha)
    · obtain ⟨vs', h', rfl⟩ := Option.map_eq_some_iff.1 h
      cases hc with | nil => exact .cons .nil (vsOf_rel h' ha)
theorem boxCells_rel {v : AV} {cs : List C} {x : Value} (h : boxCells v = some cs) (hv : AVRel w ok μ v x) : All2 (CRel w ok μ) cs x.cells.toList := by
  unfold boxCells at h
  split at h
  · cases h; exact cellsAV_rel (v := .one _) rfl hv
  · cases h; exact cellsAV_rel (v := .agg _) rfl hv
  · cases h
    cases hv with | fn _ _ => exact .cons (.any rfl) .nil
  · cases h
theorem one_all {cs : List C} {xs : List Value} (h : All2 (CRel w ok μ) cs xs) : ∀ x ∈ xs, x.oneCell' = true := by
  intro x hx
  obtain ⟨c, _, hr⟩ := h.mem hx
  exact hr.oneCell
theorem one_allV {cs : List V} {xs : List Value} (h : All2 (VRel w ok) cs xs) : ∀ x ∈ xs, x.oneCell' = true := by
  intro x hx
  obtain ⟨c, _, hr⟩ := h.mem hx
  exact hr.oneCell
theorem box_sound {t : TypeId} {cs : List C} {xs : Array Value} (hr : HR w ok μ hp) (h : All2 (CRel w ok μ) cs xs.toList) :
    Step w ok μ hp (w.alloc (.cells xs t)) ok (μ ++ [.box w.heap.size]) (hp ++ [some (.box t cs)]) ∧
      AVRel (w.alloc (.cells xs t)) ok (μ ++ [.box w.heap.size]) (.one (.ptr hp.length 0)) (.pointer (some ⟨w.heap.size, 0, none⟩)) := by
  have hframe : ∀ b, b < w.heap.size → (w.alloc (.cells xs t)).heap[b]? = w.heap[b]? := fun b hb => Below.heap_alloc w _ b hb
  have hkeep : ∀ b, ok b → (w.alloc (.cells xs t)).heap[b]? = w.heap[b]? := fun b hb => hframe b (hr.keep hb).1
  have hext : ∀ (i : Nat) q, μ[i]? = some q → (μ ++ [MB.box w.heap.size])[i]? = some q := fun i q h => by rw [List.getElem?_append_left (lt_of_getElem? h)]; exact h
  refine ⟨step_new hr rfl rfl rfl (by simp) hframe ⟨xs, heap_alloc_new w _, h.mono fun _ _ h => (h.mono hkeep fun _ h => h).ext hext⟩ ?_, .one (.ptr 0 ?_)⟩
  · intro b hb; cases hb; exact Nat.le_refl _
  · rw [← hr.len]; simp
theorem arr_sound {e : TypeId} {k : Nat} {rows : List (List V)} {xs : List Value} {x : Value} (hr : HR w ok μ hp)
    (hos : w'.os = w.os) (htape : w'.tape = w.tape) (hout : w'.output = w.output) (hsize : w.heap.size ≤ w'.heap.size)
    (hframe : ∀ b, b < w.heap.size → w'.heap[b]? = w.heap[b]?)
    (hown : w'.ownsRow 0 e k x rows.length xs) (hall : All2 (VRel w ok) rows.flatten xs) (hul : UL k rows) (hfresh : ∀ b, x.ownBlock = some b → w.heap.size ≤ b) :
    Step w ok μ hp w' ok (μ ++ [.arr x]) (hp ++ [some (.arr e k rows)]) ∧ AVRel w' ok (μ ++ [.arr x]) (.one (.ar hp.length)) x := by
  have hkeep : ∀ b, ok b → w'.heap[b]? = w.heap[b]? := fun b hb => hframe b (hr.keep hb).1
  have h1 : x.oneCell' = true := by rcases hown.2 with ⟨rfl, _⟩ | ⟨g, cap, cur, rfl, _⟩ <;> rfl
  refine ⟨step_new hr hos htape hout hsize hframe ⟨xs, hown, hall.mono fun _ _ h => h.mono hkeep fun _ h => h, hul⟩ hfresh, .one (.ar ?_ h1)⟩
  rw [← hr.len]; simp
theorem flat_rows {k : Nat} {rows : List (List V)} (h : UL k rows) : rows.flatten.length = rows.length * k := by
  induction rows with
  | nil => simp
  | cons r rows ih =>
    simp only [List.flatten_cons, List.length_append, List.length_cons, ih fun x hx => h x (List.mem_cons_of_mem _ hx), h r (List.mem_cons_self ..)]
    rw [Nat.add_mul]; omega
theorem store_run {t : TypeId} {i : TI} (hi : TIs P t i) {x : Value} {xs : List C} (hx : All2 (CRel w ok μ) xs x.cells.toList) (hl : xs.length = i.size) {g off : Nat} {cur : Array Value} {T : TypeId}
    (hg : w.heap[g]? = some (.cells cur T (0, 0))) (hfit : off + i.size ≤ cur.size) :
    (Instr.storeAt t (.pointer (some ⟨g, off, none⟩)) x).run P w = .ok () (w.setRow g (cur.toList.take off ++ x.cells.toList ++ cur.toList.drop (off + i.size)).toArray) := by
  have hlen : x.cells.toList.length = i.size := by rw [← hx.length, hl]
  have hst := run_storeCells_at P g off T x.cells.toList 0 cur w hg (by rw [hlen]; simpa using hfit) (one_all hx)
  simp only [Nat.add_zero, hlen] at hst
  have hsz : x.cells.size = i.size := by simpa using hlen
  simp only [Instr.storeAt, Instr.sureAddr, Sem.run_bind, Sem.run_pure, Result.andThen_ok, storeVar, run_sizeOf hi, hsz]
  simp [hst]
theorem partRows_build {i : TI} {k : Nat} {pl : Nat → Option (Nat × Nat)} (hpl : ∀ f, pl f = some (f * k, k)) : ∀ (parts : List (Nat × AV)) (q : Nat) (rows : List (List V)) (cs : List C), partRows k q parts = some rows →
    (q + parts.length) * k = cs.length → ∃ fl, vsOf fl = some rows.flatten ∧ buildAV i pl cs parts = some (cs.take (q * k) ++ fl) ∧ UL k rows ∧ rows.length = parts.length
  | [], q, rows, cs, h, hl => by
    cases h
    refine ⟨[], rfl, ?_, (fun r hr => by simp at hr), rfl⟩
    simp only [buildAV, List.append_nil, Option.some.injEq]
    rw [List.take_of_length_le (by simp at hl; omega)]
  | (j, v) :: parts, q, rows, cs, h, hl => by
    unfold partRows at h
    split at h
    · rename_i hj; subst hj
      split at h
      · rename_i ys hys
        split at h
        · rename_i hk
          split at h
          · rename_i a b ha hb
            cases h
            have hle : (j + 1) * k ≤ cs.length := by rw [← hl]; exact Nat.mul_le_mul_right _ (by simp)
            have e1 : (j + 1) * k = j * k + k := by rw [Nat.add_mul]; omega
            have hl' : (j + 1 + parts.length) * k = (cs.take (j * k) ++ ys ++ cs.drop (j * k + k)).length := by
              simp only [List.length_append, List.length_take, List.length_drop, hk]
              simp only [List.length_cons] at hl
              rw [show j + 1 + parts.length = j + (parts.length + 1) by omega, hl]; omega
            obtain ⟨fl, h1, h2, h3, h4⟩ := partRows_build hpl parts (j + 1) b _ hb hl'
            have hva : ∀ (l1 l2 : List C) (x y : List V), vsOf l1 = some x → vsOf l2 = some y → vsOf (l1 ++ l2) = some (x ++ y) := by
              intro l1
              induction l1 with
              | nil => intro l2 x y hx hy; cases hx; exact hy
              | cons c l1 ih =>
                intro l2 x y hx hy
                cases c <;> simp only [vsOf] at hx <;> first | (cases hx; done) | skip
                all_goals
                  obtain ⟨x', hx', rfl⟩ := Option.map_eq_some_iff.1 hx
                  simp [vsOf, ih l2 x' y hx' hy]
            refine ⟨ys ++ fl, by simpa using hva ys fl a _ ha h1, ?_, ?_, by simp [h4]⟩
            · simp only [buildAV, hpl, hys]
              rw [if_pos ⟨hk, by omega⟩, h2]
              congr 1
              rw [List.take_left' (by simp only [List.length_append, List.length_take, hk]; rw [e1, Nat.min_eq_left (by omega)]), List.append_assoc]
            · intro r hr
              rcases List.mem_cons.1 hr with rfl | hr
              · have := hk;
                have hvl : ∀ (l : List C) (x : List V), vsOf l = some x → x.length = l.length := by
                  intro l
                  induction l with
                  | nil => intro x hx; cases hx; rfl
                  | cons c l ih =>
                    intro x hx
                    cases c <;> simp only [vsOf] at hx <;> first | (cases hx; done) | skip
                    all_goals
                      obtain ⟨x', hx', rfl⟩ := Option.map_eq_some_iff.1 hx
                      simp [ih x' hx']
                rw [hvl ys _ ha, hk]
              · exact h3 r hr
          · cases h
        · cases h
      · cases h
    · cases h
end
end Go.Proofs.AE
set_option linter.unusedVariables false
set_option linter.unusedSimpArgs false
namespace Go.Proofs.AE
open Go Go.RowKit
section
variable {P : Program} {n : Nat} {w w' : World} {ok ok' : Nat → Prop} {μ μ' : List MB} {hp hp' : Hp}
theorem rows_cells {rows : List (List V)} {k : Nat} (hk : UL k rows) {a : Addr} (h : ∀ (i : Nat) row (j : Nat) v, rows[i]? = some row → row[j]? = some v → ∃ y, w.cell? (a.add (i * row.length + j)) = some y ∧ VRel w ok v y) :
    ∃ xs, All2 (VRel w ok) rows.flatten xs ∧ ∀ (j : Nat) u, xs[j]? = some u → w.cell? (a.add j) = some u := by
  have hlen := flat_rows hk
  have key : ∀ j v, rows.flatten[j]? = some v → ∃ y, w.cell? (a.add j) = some y ∧ VRel w ok v y := by
    intro j v hj
    have hjl := lt_of_getElem? hj
    rw [hlen] at hjl
    have hk0 : 0 < k := by rcases Nat.eq_zero_or_pos k with rfl | h; · simp at hjl
                           · exact h
    have hq : j / k < rows.length := (Nat.div_lt_iff_lt_mul hk0).2 hjl
    have hrow : rows[j / k]? = some rows[j / k] := List.getElem?_eq_getElem hq
    have hmod := Nat.mod_lt j hk0
    have hf := flatten_get hk hrow (j % k) hmod
    have hdm : j / k * k + j % k = j := by rw [Nat.mul_comm]; exact Nat.div_add_mod j k
    rw [hdm, hj] at hf
    obtain ⟨y, hy, hr⟩ := h (j / k) _ (j % k) v hrow hf.symm
    rw [hk _ (List.mem_of_getElem? hrow), hdm] at hy
    exact ⟨y, hy, hr⟩
  refine ⟨(List.range rows.flatten.length).map fun j => (w.cell? (a.add j)).getD undef, All2.of_get (by simp) ?_, ?_⟩
  · intro j v y hj hy
    have hjl := lt_of_getElem? hj
    obtain ⟨z, hz, hr⟩ := key j v hj
    rw [List.getElem?_map, List.getElem?_range hjl] at hy
    simp only [Option.map_some, hz, Option.getD_some, Option.some.injEq] at hy
    subst hy; exact hr
  · intro j u hu
    have hjl : j < rows.flatten.length := by have := lt_of_getElem? hu; simpa using this
    obtain ⟨z, hz, hr⟩ := key j _ (List.getElem?_eq_getElem hjl)
    rw [List.getElem?_map, List.getElem?_range hjl] at hu
    simp only [Option.map_some, hz, Option.getD_some, Option.some.injEq] at hu
    subst hu
    exact hz
theorem strRows_rel (s : ByteArray) : All2 (VRel w ok) (strRows s).flatten (Lib.strCells s) := by
  unfold strRows Lib.strCells
  induction s.data.toList with
  | nil => exact .nil
  | cons b l ih => exact .cons (.lit _ rfl) ih
theorem strRows_len (s : ByteArray) : (strRows s).length = s.size := by simp [strRows]
theorem madeCells_rel {z : Array Value} {zs : List V} (h : All2 (VRel w ok) zs z.toList) (m : Nat) : All2 (VRel w ok) (List.replicate m zs).flatten (madeCells z (m * z.size)).toList := by
  have hl : zs.length = z.size := by simpa using h.length
  have hul : UL z.size (List.replicate m zs) := fun r hr => by rw [(List.mem_replicate.1 hr).2]; exact hl
  have hfl := flat_rows hul
  refine All2.of_get (by rw [hfl]; simp [madeCells]) ?_
  intro j v y hj hy
  have hjl := lt_of_getElem? hj
  rw [hfl, List.length_replicate] at hjl
  have hk0 : 0 < z.size := by rcases Nat.eq_zero_or_pos z.size with h0 | h0; · rw [h0] at hjl; simp at hjl
                              · exact h0
  have hq : j / z.size < m := (Nat.div_lt_iff_lt_mul hk0).2 hjl
  have hrow : (List.replicate m zs)[j / z.size]? = some zs := by rw [List.getElem?_replicate, if_pos hq]
  have hmod := Nat.mod_lt j hk0
  have hf := flatten_get hul hrow (j % z.size) hmod
  have hdm : j / z.size * z.size + j % z.size = j := by rw [Nat.mul_comm]; exact Nat.div_add_mod j _
  rw [hdm, hj] at hf
  obtain ⟨y', hy', hr⟩ := h.get hf.symm
  have : y = y' := by
    simp only [madeCells, Array.toList_map, Array.toList_range, List.getElem?_map, List.getElem?_range hjl, Option.map_some, Option.some.injEq] at hy
    rw [← hy]
    have h2 : z[j % z.size]? = some y' := by simpa using hy'
    simp [hmod]
    have := Array.getElem?_eq_getElem (xs := z) hmod
    rw [this] at h2; exact Option.some.inj h2
  subst this
  exact hr
theorem set_flatten {k : Nat} : ∀ {rows : List (List V)} {r : Nat} {row : List V}, UL k rows → rows[r]? = some row → r < rows.length → ∀ (new : List V) (off sz : Nat), off + sz ≤ k → ∀ vs, new = row.take off ++ vs ++ row.drop (off + sz) →
    (rows.set r new).flatten = rows.flatten.take (r * k + off) ++ vs ++ rows.flatten.drop (r * k + off + sz)
  | [], r, row, _, h, _, _, _, _, _, _, _ => by simp at h
  | r0 :: rows, 0, row, hul, h, _, new, off, sz, hle, vs, hn => by
    have h0 := hul r0 (List.mem_cons_self ..)
    simp at h; subst h; subst hn
    simp only [List.set_cons_zero, List.flatten_cons, Nat.zero_mul, Nat.zero_add]
    rw [List.take_append_of_le_length (by omega), List.drop_append_of_le_length (by omega)]
    simp [List.append_assoc]
  | r0 :: rows, r + 1, row, hul, h, hr, new, off, sz, hle, vs, hn => by
    have h0 := hul r0 (List.mem_cons_self ..)
    simp only [List.set_cons_succ, List.flatten_cons]
    rw [set_flatten (fun x hx => hul x (List.mem_cons_of_mem _ hx)) (by simpa using h) (by simpa using hr) new off sz hle vs hn]
    have e1 : (r + 1) * k = r0.length + r * k := by rw [Nat.add_mul, h0]; omega
    rw [e1, show r0.length + r * k + off = r0.length + (r * k + off) by omega, show r0.length + (r * k + off) + sz = r0.length + (r * k + off + sz) by omega]
    rw [List.take_length_add_append, List.drop_length_add_append]
    simp [List.append_assoc]
theorem grown_frame {row : Option Nat} (hg : w.grownBy w' row) {b : Nat} (hb : b < w.heap.size) (hn : row ≠ some b) : w'.heap[b]? = w.heap[b]? :=
  hg.block b hb fun e => hn e.symm
theorem grown_owns {e : TypeId} {size : Nat} {z : Value} (hzs : z.cells.size = size) {xs news : List Value} {n m cap : Nat} (hx : xs.length = n * size) (hn : news.length = m * size) (hcap : n + m ≤ cap) (hmax : cap ≤ maxLen) :
    (w.drew.alloc (.cells (xs.toArray ++ news.toArray ++ Builtin.zeroCells z.cells (cap - (n + m))) e)).ownsRow 0 e size (.slice (some ⟨w.heap.size, 0, none⟩) (n + m) cap) (n + m) (xs ++ news) := by
  have hl : (xs ++ news).length = (n + m) * size := by rw [List.length_append, hx, hn, Nat.add_mul]
  refine ⟨hl, .inr ⟨w.heap.size, cap, _, rfl, Nat.zero_le _, heap_alloc_new w.drew _, hcap, hmax, ?_, ?_⟩⟩
  · simp only [Array.size_append, List.size_toArray, size_zeroCells, hzs, hx, hn, ← Nat.add_mul]
    congr 1; omega
  · simp only [Array.toList_append]
    exact List.take_left' hl
theorem grown_by {row : Option Nat} (o : Obj) : w.grownBy (w.drew.alloc o) row := ⟨rfl, rfl, rfl, by simp, fun k hk _ => Below.heap_alloc w.drew _ k hk⟩
theorem room_owns {e : TypeId} {size g n m cap : Nat} {cur : Array Value} {xs news : List Value} (hg : w.heap[g]? = some (.cells cur e (0, 0))) (hx : xs.length = n * size) (hn : news.length = m * size) (hcap : n + m ≤ cap) (hmax : cap ≤ maxLen) (hcs : cur.size = cap * size)
    (htake : cur.toList.take (n * size) = xs) :
    (w.setRow g (cur.toList.take (n * size) ++ news ++ cur.toList.drop (n * size + news.length)).toArray).ownsRow 0 e size (.slice (some ⟨g, 0, none⟩) (n + m) cap) (n + m) (xs ++ news) := by
  have hl : (xs ++ news).length = (n + m) * size := by rw [List.length_append, hx, hn, Nat.add_mul]
  have hle : (n + m) * size ≤ cur.size := by rw [hcs]; exact Nat.mul_le_mul_right _ hcap
  refine ⟨hl, .inr ⟨g, cap, _, rfl, Nat.zero_le _, setRow_heap w g cur _ e _ hg, hcap, hmax, ?_, ?_⟩⟩
  · simp only [List.size_toArray, List.length_append, List.length_take, List.length_drop, Array.length_toList, hn, ← hcs]
    rw [Nat.add_mul] at hle; omega
  · rw [htake]; exact List.take_left' hl
theorem room_by {g : Nat} {cs : Array Value} {n cap : Nat} : w.grownBy (w.setRow g cs) (Value.ownBlock (.slice (some ⟨g, 0, none⟩) n cap)) :=
  ⟨rfl, rfl, rfl, by simp, fun k _ hk => setRow_other w g k _ (fun e => hk (by simp [Value.ownBlock, e]))⟩
theorem append_own2 (t ty e : TypeId) (i : TypeInfo) (z : Value) (size bytes : Nat) (ht : P.underlying t = some (.slice e)) (hi : P.info? e = some i) (hz : i.zero = some z)
    (hsize : i.size = size) (hby : i.bytes = bytes) (hzs : z.cells.size = size) (v : Value) (n : Nat) (xs : List Value) (hown : w.ownsRow 0 e size v n xs)
    (a : Addr) (m c : Nat) (news : List Value) (hl : news.length = m * size) (hnews : ∀ (j : Nat) u, news[j]? = some u → w.cell? (a.add j) = some u) (h1 : ∀ u ∈ news, u.oneCell' = true)
    (h63 : n + m ≤ 9223372036854775807) (hbytes : (n + m) * bytes ≤ 140737488355328) :
    ∃ v' w', (Builtin.append_ #[t, t] ty #[v, .slice (some a) m c]).run P w = .ok v' w' ∧ w'.ownsRow 0 e size v' (n + m) (xs ++ news) ∧ w.grownBy w' v.ownBlock ∧ (∀ b, v'.ownBlock = some b → v.ownBlock = some b ∨ w.heap.size ≤ b) := by
  subst hsize; subst hby
  have hmx : n + m ≤ maxLen := by unfold maxLen; omega
  rcases hown.2 with ⟨rfl, rfl⟩ | ⟨g, cap, cur, rfl, _, hg, hnc, hcm, hcs, htake⟩
  · have hx : xs = [] := List.eq_nil_of_length_eq_zero (by simpa using hown.1)
    subst hx
    by_cases hm : m = 0
    · subst hm
      have hn : news = [] := List.eq_nil_of_length_eq_zero (by simpa using hl)
      subst hn
      refine ⟨.slice none 0 0, w, ?_, World.ownsRow_nil w 0 e i.size, ⟨rfl, rfl, rfl, Nat.le_refl _, fun _ _ _ => rfl⟩, fun b hb => .inl hb⟩
      simp [Builtin.append_, run_underlying ht, sizeOf, typeInfo, hi, Builtin.lenOf, Builtin.firstCells, loadCells, loadCellsFrom]
    · have hr := run_append_nil (P := P) w t ty e i z ht hi hz a m c news hl hnews (by omega) (by omega) (by simp only [Nat.zero_add] at hbytes; omega)
      have hge := grownCap_ge w m 0 e
      have hgm := grownCap_le_maxLen w m 0 e (by simpa using hmx)
      have hgr := grown_owns (w := w) (e := e) hzs (xs := []) (news := news) (n := 0) (m := m) (by simp) hl (by omega) hgm
      simp only [Nat.zero_add, List.nil_append, Array.empty_append] at hgr ⊢
      exact ⟨_, _, hr, hgr, grown_by _, fun b hb => .inr (by cases hb; exact Nat.le_refl _)⟩
  · by_cases hroom : n + m ≤ cap
    · have hfit : n * i.size + news.length ≤ cur.size := by rw [hl, hcs, ← Nat.add_mul]; exact Nat.mul_le_mul_right _ hroom
      have hr := run_append_room (P := P) w t ty e i ht hi g n cap cur hg a m c news hl hnews h1 hroom hfit
      exact ⟨_, _, hr, room_owns hg hown.1 hl hroom hcm hcs htake, room_by, fun b hb => .inl hb⟩
    · have holds : ∀ (j : Nat) u, xs[j]? = some u → w.cell? ((⟨g, 0, none⟩ : Addr).add j) = some u := hown.cells (g := g) rfl
      have hr := run_append_grow (P := P) w t ty e i z ht hi hz ⟨g, 0, none⟩ n cap xs hown.1 holds a m c news hl hnews (by omega) (by omega) (growslice_fits (by omega) hbytes)
      exact ⟨_, _, hr, grown_owns hzs hown.1 hl (grownCap_ge w _ _ e) (grownCap_le_maxLen w _ _ e hmx), grown_by _, fun b hb => .inr (by cases hb; exact Nat.le_refl _)⟩
theorem append_own_str (t u ty e : TypeId) (i : TypeInfo) (ht : P.underlying t = some (.slice e)) (hu : P.underlying u = some .string) (hi : P.info? e = some i) (hz : i.zero = some (.int .u8 0))
    (hsize : i.size = 1) (hby : i.bytes = 1) (v : Value) (n : Nat) (xs : List Value) (hown : w.ownsRow 0 e 1 v n xs) (s : ByteArray)
    (h63 : n + s.size ≤ 9223372036854775807) (hbytes : n + s.size ≤ 140737488355328) :
    ∃ v' w', (Builtin.append_ #[t, u] ty #[v, .string s]).run P w = .ok v' w' ∧ w'.ownsRow 0 e 1 v' (n + s.size) (xs ++ Lib.strCells s) ∧ w.grownBy w' v.ownBlock ∧ (∀ b, v'.ownBlock = some b → v.ownBlock = some b ∨ w.heap.size ≤ b) := by
  have hmx : n + s.size ≤ maxLen := by unfold maxLen; omega
  have hsl : (Lib.strCells s).length = s.size * 1 := by rw [Lib.strCells_length, Nat.mul_one]
  rcases hown.2 with ⟨rfl, rfl⟩ | ⟨g, cap, cur, rfl, _, hg, hnc, hcm, hcs, htake⟩
  · have hx : xs = [] := List.eq_nil_of_length_eq_zero (by simpa using hown.1)
    subst hx
    by_cases hm : s.size = 0
    · obtain ⟨v', w', r1, r2, r3, r4⟩ := Lib.run_append_own_string (P := P) w 0 t u ty e i ht hu hi hz hsize hby _ _ _ hown s hmx hbytes (Nat.zero_le _)
      have hv : v' = .slice none 0 0 := r4.2 ⟨rfl, hm⟩
      subst hv
      exact ⟨_, w', r1, r2, r3, fun b hb => by cases hb⟩
    · have hr := run_append_nil_string (P := P) w t u ty e i _ ht hu hi hz s (by omega) (by omega) (by rw [hby]; omega)
      have hge := grownCap_ge w s.size 0 e
      have hgm := grownCap_le_maxLen w s.size 0 e (by simpa using hmx)
      have hgr := grown_owns (w := w) (e := e) (size := 1) (z := .int .u8 0) rfl (xs := []) (news := Lib.strCells s) (n := 0) (m := s.size) (by simp) hsl (by omega) hgm
      simp only [Nat.zero_add, List.nil_append, Array.empty_append] at hgr ⊢
      have harr : (Lib.strCells s).toArray = s.data.map (fun b => Value.int .u8 b.toNat) := by apply Array.ext'; simp [Lib.strCells]
      rw [harr] at hgr
      exact ⟨_, _, hr, hgr, grown_by _, fun b hb => .inr (by cases hb; exact Nat.le_refl _)⟩
  · by_cases hroom : n + s.size ≤ cap
    · have hfit : n + s.size ≤ cur.size := by rw [hcs]; omega
      have hr := Lib.run_append_room_string (P := P) w t u ty e i ht hu hi hsize g n cap cur hg s hroom hfit
      have ho := room_owns (news := Lib.strCells s) (m := s.size) hg hown.1 hsl hroom hcm hcs htake
      simp only [Nat.mul_one, Lib.strCells_length] at ho
      exact ⟨_, _, hr, ho, room_by, fun b hb => .inl hb⟩
    · have holds : ∀ (j : Nat) u, xs[j]? = some u → w.cell? ((⟨g, 0, none⟩ : Addr).add j) = some u := hown.cells (g := g) rfl
      have hr := Lib.run_append_grow_string (P := P) w t u ty e i _ ht hu hi hz ⟨g, 0, none⟩ n cap xs (by rw [hsize]; exact hown.1) holds s (by omega) (by omega) (growslice_fits (by omega) (by rw [hby]; omega))
      exact ⟨_, _, hr, grown_owns rfl hown.1 hsl (grownCap_ge w _ _ e) (grownCap_le_maxLen w _ _ e hmx), grown_by _, fun b hb => .inr (by cases hb; exact Nat.le_refl _)⟩
theorem heapOp_sound {o : Oper} {ρ : Operand → Value} {ev : Operand → AV} {p : Prop} {r : AV} (hr : HR w ok μ hp) (hev : ∀ x, AVRel w ok μ (ev x) (ρ x))
    (h : heapOp P hp ev o.op = some (p, r, hp')) (hp'' : p) :
    ∃ nx w' μ', (execOp ρ o).run P w = .ok nx w' ∧ Step w ok μ hp w' ok μ' hp' ∧ ((∃ x, nx = .value x ∧ AVRel w' ok μ' r x) ∨ (nx = .skip ∧ r = .any)) := by
  unfold heapOp at h
  split at h
  · rename_i t he
    split at h
    · rename_i i hi
      cases h
      obtain ⟨it, hit, hsz, _, z, hz, hzs, hzl⟩ := (tiOf_spec hi).info
      obtain ⟨h1, h2⟩ := box_sound (t := t) (xs := z.cells) hr (zeroC_rel hzs)
      refine ⟨_, _, _, ?_, h1, .inl ⟨_, rfl, h2⟩⟩
      simp [execOp, he, Instr.alloc, zeroValue, typeInfo, hit, hz, newVar, newRow]
    · cases h
  · rename_i t x he
    obtain ⟨cs, hcs, e⟩ := Option.map_eq_some_iff.1 h
    cases e
    obtain ⟨h1, h2⟩ := box_sound (t := t) (xs := (ρ x).cells) hr (boxCells_rel hcs (hev x))
    refine ⟨_, _, _, ?_, h1, .inl ⟨_, rfl, h2⟩⟩
    simp [execOp, he, Instr.box, newVar, newRow]
  · rename_i t a x he
    split at h
    · rename_i i xs hi hxs
      have hti := tiOf_spec hi
      have hx := boxCells_rel hxs (hev x)
      split at h
      · rename_i hl
        have ha := hev a
        split at h
        · rename_i b off hae
          rw [hae] at ha
          split at h
          · rename_i u cs hb
            split at h
            · rename_i hle
              cases h
              obtain ⟨m, hm, hbr⟩ := hr.rel _ _ hb
              cases hav : ρ a with
              | pointer ad =>
                rw [hav] at ha
                cases ha with | one hc => cases hc with | @ptr _ g _ hμ =>
                rw [hμ] at hm; cases hm
                obtain ⟨cur, hg, hall⟩ := hbr
                have hfit : off + i.size ≤ cur.size := by have := hall.length; simp at this; omega
                have hrun := store_run hti hx hl hg hfit
                have hframe : ∀ q, q ≠ g → (w.setRow g (cur.toList.take off ++ (ρ x).cells.toList ++ cur.toList.drop (off + i.size)).toArray).heap[q]? = w.heap[q]? := fun q hq => setRow_other w g q _ hq
                refine ⟨.skip, _, _, ?_, step_set (w' := w.setRow g (cur.toList.take off ++ (ρ x).cells.toList ++ cur.toList.drop (off + i.size)).toArray) hr hb hμ rfl rfl rfl (by simp) (fun q hq => hframe q (fun e => hq (by rw [e]; rfl))) ⟨_, setRow_heap w g cur _ _ _ hg, ?_⟩, .inr ⟨rfl, rfl⟩⟩
                · simp only [execOp, he, hav, Sem.run_bind, hrun, Result.andThen_ok]; rfl
                · have hk : ∀ q, ok q → (w.setRow g (cur.toList.take off ++ (ρ x).cells.toList ++ cur.toList.drop (off + i.size)).toArray).heap[q]? = w.heap[q]? := fun q hq => hframe q (fun e => (hr.okn q hq).2 b _ _ hb hμ (by rw [e]; rfl))
                  exact (((hall.take off).append hx).append (hall.drop _)).mono fun _ _ h => h.mono hk fun _ h => h
              | _ => rw [hav] at ha; cases ha with | one hc => cases hc
            · cases h
          · cases h
        · rename_i b r' k off hae
          rw [hae] at ha
          split at h
          · rename_i e k' rows hb
            split at h
            · rename_i row vs hrow hvs
              split at h
              · rename_i hk
                obtain ⟨rfl, hle⟩ := hk
                cases h
                obtain ⟨m, hm, hbr⟩ := hr.rel _ _ hb
                cases hav : ρ a with
                | pointer ad =>
                  rw [hav] at ha
                  cases ha with | one hc => cases hc with | @eptr _ g len cap _ _ _ hμ =>
                  rw [hμ] at hm; cases hm
                  obtain ⟨ys, hown, hall, hul⟩ := hbr
                  have hxv := vsOf_rel hvs hx
                  rcases hown.2 with ⟨hnil, _⟩ | ⟨g', cap', cur, heq, _, hg, hnc, hcm, hcs, htake⟩
                  · cases hnil
                  · cases heq
                    have hrl := lt_of_getElem? hrow
                    have hrlen := hul row (List.mem_of_getElem? hrow)
                    have hbound : r' * k' + k' ≤ rows.length * k' := by
                      have : (r' + 1) * k' ≤ rows.length * k' := Nat.mul_le_mul_right _ hrl
                      rw [Nat.add_mul] at this; omega
                    have hcap : rows.length * k' ≤ cur.size := by rw [hcs]; exact Nat.mul_le_mul_right _ hnc
                    have hfit : (r' * k' + off) + i.size ≤ cur.size := by omega
                    have hrun := store_run hti hx hl hg hfit
                    have hframe : ∀ q, q ≠ g → (w.setRow g (cur.toList.take (r' * k' + off) ++ (ρ x).cells.toList ++ cur.toList.drop (r' * k' + off + i.size)).toArray).heap[q]? = w.heap[q]? := fun q hq => setRow_other w g q _ hq
                    have hxl : (ρ x).cells.toList.length = i.size := by rw [← hx.length, hl]
                    have hvl : vs.length = i.size := by rw [hxv.length, hxl]
                    refine ⟨.skip, _, _, ?_, step_set (blk' := .arr e k' (rows.set r' (row.take off ++ vs ++ row.drop (off + i.size)))) (w' := w.setRow g (cur.toList.take (r' * k' + off) ++ (ρ x).cells.toList ++ cur.toList.drop (r' * k' + off + i.size)).toArray) hr hb hμ rfl rfl rfl (by simp) (fun q hq => hframe q (fun e => hq (by rw [e]; rfl))) ⟨ys.take (r' * k' + off) ++ (ρ x).cells.toList ++ ys.drop (r' * k' + off + i.size), ?_, ?_, ?_⟩, .inr ⟨rfl, rfl⟩⟩
                    · simp only [execOp, he, hav, Sem.run_bind, hrun, Result.andThen_ok]; rfl
                    · have hyl : ys.length = rows.length * k' := hown.1
                      refine ⟨?_, .inr ⟨g, cap, _, by simp, Nat.zero_le _, setRow_heap w g cur _ _ _ hg, by simpa using hnc, hcm, ?_, ?_⟩⟩
                      · simp only [List.length_append, List.length_take, List.length_drop, List.length_set, hxl, hyl]; omega
                      · simp only [List.size_toArray, List.length_append, List.length_take, List.length_drop, Array.length_toList, hxl]; omega
                      · simp only [List.length_set]
                        apply List.ext_getElem?
                        intro q
                        have htq : ∀ q, q < rows.length * k' → cur.toList[q]? = ys[q]? := by
                          intro q hq; rw [← htake, List.getElem?_take, if_pos hq]
                        simp only [List.getElem?_take, List.append_assoc, List.getElem?_append, List.length_take, List.getElem?_drop, Array.length_toList, hxl, hyl]
                        rw [Nat.min_eq_left (by omega), Nat.min_eq_left (by omega)]
                        by_cases q1 : q < rows.length * k'
                        · rw [if_pos q1]
                          by_cases q2 : q < r' * k' + off
                          · simp [q2, htq q q1]
                          · rw [if_neg q2, if_neg q2]
                            by_cases q3 : q - (r' * k' + off) < i.size
                            · rw [if_pos q3, if_pos q3]
                            · rw [if_neg q3, if_neg q3, htq _ (by omega)]
                        · rw [if_neg q1, if_neg (by omega), if_neg (by omega), List.getElem?_eq_none (by rw [hyl]; omega)]
                    · have hk : ∀ q, ok q → (w.setRow g (cur.toList.take (r' * k' + off) ++ (ρ x).cells.toList ++ cur.toList.drop (r' * k' + off + i.size)).toArray).heap[q]? = w.heap[q]? := fun q hq => hframe q (fun e => (hr.okn q hq).2 b _ _ hb hμ (by rw [e]; rfl))
                      have hfl : (rows.set r' (row.take off ++ vs ++ row.drop (off + i.size))).flatten = rows.flatten.take (r' * k' + off) ++ vs ++ rows.flatten.drop (r' * k' + off + i.size) := by
                        exact set_flatten hul hrow hrl (row.take off ++ vs ++ row.drop (off + i.size)) off i.size hle vs rfl
                      rw [hfl]
                      exact (((hall.take _).append hxv).append (hall.drop _)).mono fun _ _ h => h.mono hk fun _ h => h
                    · intro q hq
                      rcases List.mem_or_eq_of_mem_set hq with h1 | h1
                      · exact hul q h1
                      · rw [h1]; simp only [List.length_append, List.length_take, List.length_drop, hvl]; omega
                | _ => rw [hav] at ha; cases ha with | one hc => cases hc
              · cases h
            · cases h
          · cases h
        · cases h
      · cases h
    · cases h
  · rename_i t len parts he
    split at h
    · rename_i e hs
      obtain ⟨i, hi, hi'⟩ := Option.map_eq_some_iff.1 hs
      have hu := (tiOf_spec hi).slice hi'
      split at h
      · rename_i j hj
        split at h
        · rename_i hc
          obtain ⟨hz0, hsm, hpl⟩ := hc
          obtain ⟨rows, hrows, e'⟩ := Option.map_eq_some_iff.1 h
          cases e'
          obtain ⟨it, hit, hsz, hby, z, hz, hzs, hzl⟩ := (tiOf_spec hj).info
          have hplen : (parts.toList.map fun (k, x) => (k, ev x)).length = len := by simp [hpl]
          obtain ⟨fl, h1, h2, h3, h4⟩ := partRows_build (i := j) (pl := fun f => some (f * j.size, j.size)) (fun _ => rfl) _ 0 rows (List.replicate (len * j.size) .any) hrows (by simp [hpl])
          rw [hplen] at h4
          simp only [Nat.zero_mul, List.take_zero, List.nil_append] at h2
          by_cases hlen : len = 0
          · subst hlen
            have hr0 : rows = [] := List.eq_nil_of_length_eq_zero h4
            subst hr0
            have hp0 : parts = #[] := Array.eq_empty_of_size_eq_zero hpl
            subst hp0
            obtain ⟨s1, s2⟩ := arr_sound (w' := w.alloc (.cells #[] e)) (e := e) (k := j.size) (rows := []) (xs := []) (x := .slice (some ⟨w.heap.size, 0, none⟩) 0 0) hr rfl rfl rfl (by simp) (fun b hb => Below.heap_alloc w _ b hb)
              (World.ownsRow_made w #[] 0 (Nat.zero_le _) (Nat.zero_le _) (by simp)) .nil (fun _ h => by simp at h) (fun b hb => by cases hb; exact Nat.le_refl _)
            refine ⟨_, _, _, ?_, s1, .inl ⟨_, rfl, s2⟩⟩
            simp [execOp, he, Instr.buildSlice, run_underlying hu, sizeOf, typeInfo, hit, Instr.fill, newRow, Array.range_zero']
          · have hpos : ¬ len * it.size = 0 := by rw [hsz]; intro h0; rcases Nat.mul_eq_zero.1 h0 with h0 | h0; exact hlen h0; exact hz0 h0
            have hzsz : z.cells.size = j.size := by rw [← hzl]; have := (zVs_rel (w := w) (ok := ok) hzs).length; simpa using this.symm
            have h0 : All2 (CRel w ok μ) (List.replicate (len * j.size) C.any) ((Array.range (len * it.size)).map (z.cells[· % z.cells.size]!)).toList := by
              refine All2.of_get (by simp [hsz]) ?_
              intro q c y hq hy
              have hql := lt_of_getElem? hq
              rw [List.length_replicate] at hql
              rw [List.getElem?_replicate, if_pos hql] at hq
              cases hq
              simp only [Array.toList_map, Array.toList_range, List.getElem?_map, hsz, List.getElem?_range hql, Option.map_some, Option.some.injEq] at hy
              subst hy
              have hmod : q % z.cells.size < z.cells.size := Nat.mod_lt _ (by rw [hzsz]; omega)
              have h5 : z.cells[q % z.cells.size]! = z.cells[q % z.cells.size]'hmod := by simp [hmod]
              rw [h5]
              exact .any (one_allV (zVs_rel (w := w) (ok := ok) hzs) _ (by simp))
            obtain ⟨xs', h5, h6⟩ := fill_sound (i := j) (pl := fun i => some (i * it.size, it.size)) (place := fun f => some (f * j.size, j.size)) (fun f q hq => by rw [hsz]; exact hq) _ (parts.map fun (k, x) => (k, ρ x)).toList _ fl _ (by simpa using parts_rel hev parts.toList) h2 h0
            have hrun := run_buildSlice w t e len (parts.map fun (k, x) => (k, ρ x)) xs' it z hu hit hz (by rw [hsz]; omega) hpos h5
            have hall := vsOf_rel h1 h6
            have hfl := flat_rows h3
            have hxl : xs'.size = len * j.size := by have := hall.length; rw [hfl, h4] at this; simpa using this.symm
            obtain ⟨s1, s2⟩ := arr_sound (w' := w.alloc (.cells xs' e)) (e := e) (k := j.size) (rows := rows) (xs := xs'.toList) (x := .slice (some ⟨w.heap.size, 0, none⟩) len len) hr rfl rfl rfl (by simp) (fun b hb => Below.heap_alloc w _ b hb)
              ⟨by simpa [h4] using hxl, .inr ⟨w.heap.size, len, xs', by rw [h4], Nat.zero_le _, heap_alloc_new w _, by omega, by have : len ≤ len * j.size := Nat.le_mul_of_pos_right _ (by omega); unfold maxLen; omega, hxl, List.take_of_length_le (by simp [h4]; omega)⟩⟩ hall h3 (fun b hb => by cases hb; exact Nat.le_refl _)
            refine ⟨_, _, _, ?_, s1, .inl ⟨_, rfl, s2⟩⟩
            simp [execOp, he, hrun]
        · cases h
      · cases h
    · cases h
  · rename_i t l c he
    split at h
    · rename_i e q m hs hl hm
      obtain ⟨i, hi, hi'⟩ := Option.map_eq_some_iff.1 hs
      have hu := (tiOf_spec hi).slice hi'
      split at h
      · rename_i j hj
        split at h
        · rename_i hz0
          cases h
          obtain ⟨rfl, g0, g1, g2⟩ := hp''
          obtain ⟨it, hit, hsz, hby, z, hz, hzs, hzl⟩ := (tiOf_spec hj).info
          obtain ⟨kl, hkl⟩ := intOfAV_rel hl (hev l)
          obtain ⟨kc, hkc⟩ := intOfAV_rel hm (hev c)
          have hrun := run_make (P := P) w t e it z hu hit hz kl kc q q g0 (Int.le_refl _) (by rw [hby]; exact g1) g2
          have hzsz : z.cells.size = j.size := by rw [← hzl]; have := (zVs_rel (w := w) (ok := ok) hzs).length; simpa using this.symm
          have hall := madeCells_rel (w := w) (ok := ok) (zVs_rel hzs) q.toNat
          rw [hzsz] at hall
          obtain ⟨s1, s2⟩ := arr_sound (w' := w.alloc (.cells (madeCells z.cells (q.toNat * it.size)) e)) (e := e) (k := j.size) (rows := List.replicate q.toNat j.zero) (xs := (madeCells z.cells (q.toNat * j.size)).toList) (x := .slice (some ⟨w.heap.size, 0, none⟩) q.toNat q.toNat) hr rfl rfl rfl (by simp) (fun b hb => Below.heap_alloc w _ b hb)
              ⟨by simp [size_madeCells], .inr ⟨w.heap.size, q.toNat, _, by simp, Nat.zero_le _, heap_alloc_new w _, by simp, by unfold maxLen; omega, by rw [size_madeCells, hsz], by rw [hsz]; exact List.take_of_length_le (by simp [size_madeCells])⟩⟩ hall (fun r hr => by rw [(List.mem_replicate.1 hr).2]; exact hzl) (fun b hb => by cases hb; exact Nat.le_refl _)
          refine ⟨_, _, _, ?_, s1, .inl ⟨_, rfl, s2⟩⟩
          simp [execOp, he, hkl, hkc, hrun]
        · cases h
      · cases h
    · cases h
  · rename_i args ts he
    split at h
    · rename_i s x t u hargs hts
      obtain rfl : args = #[s, x] := by apply Array.ext'; simpa using hargs
      obtain rfl : ts = #[t, u] := by apply Array.ext'; simpa using hts
      split at h
      · rename_i e hs
        obtain ⟨i, hi, hi'⟩ := Option.map_eq_some_iff.1 hs
        have hu := (tiOf_spec hi).slice hi'
        split at h
        · rename_i j new hj hnew
          by_cases hc : (j.size != 0 && (if isStrSh ((tiOf P u).map TI.sh) then j.size == 1 && j.bytes == 1 && isU8 P e else t == u)) = true
          · rw [if_pos hc] at h
            obtain ⟨it, hit, hsz, hby, z, hz, hzs, hzl⟩ := (tiOf_spec hj).info
            have hzsz : z.cells.size = j.size := by rw [← hzl]; have := (zVs_rel (w := w) (ok := ok) hzs).length; simpa using this.symm
            have hexec : (execOp ρ o).run P w = ((Builtin.append_ #[t, u] o.type #[ρ s, ρ x]).run P w).andThen fun v w' => .ok (.value v) w' := by
              simp [execOp, he, resolve, invoke, builtin]
            rw [Bool.and_eq_true] at hc
            obtain ⟨hc0, hc1⟩ := hc
            have hpos : 0 < j.size := by have : j.size ≠ 0 := by simpa using hc0
                                         omega
            have main : ∀ (v : Value) (m : Nat) (xs : List Value), w.ownsRow 0 e j.size v m xs → UL j.size new → m + new.length ≤ 9223372036854775807 → (m + new.length) * j.bytes ≤ 140737488355328 → ρ s = v →
                ∃ v' w' ys, (Builtin.append_ #[t, u] o.type #[ρ s, ρ x]).run P w = .ok v' w' ∧ w'.ownsRow 0 e j.size v' (m + new.length) (xs ++ ys) ∧ All2 (VRel w ok) new.flatten ys ∧ w.grownBy w' v.ownBlock ∧ (∀ b, v'.ownBlock = some b → v.ownBlock = some b ∨ w.heap.size ≤ b) := by
              intro v m xs hown hul h63 hbytes hv
              have hx := hev x
              cases hstr : isStrSh ((tiOf P u).map TI.sh) with
              | true =>
                rw [hstr] at hc1
                simp only [if_true, Bool.and_eq_true, beq_iff_eq] at hc1
                obtain ⟨⟨q1, q2⟩, q3⟩ := hc1
                have hsu : (tiOf P u).map TI.sh = some .string := by
                  unfold isStrSh at hstr; split at hstr <;> first | assumption | cases hstr
                rw [hsu] at hnew
                simp only [srcRows] at hnew
                split at hnew
                · rename_i str hxe
                  cases hnew
                  rw [hxe] at hx
                  have hxv := lit_rel hx
                  obtain ⟨iu, hiu, hiu'⟩ := Option.map_eq_some_iff.1 hsu
                  have huu := (tiOf_spec hiu).string hiu'
                  have hzz : it.zero = some (.int .u8 0) := by
                    unfold isU8 at q3
                    rw [hit, Option.bind_some] at q3
                    split at q3
                    · assumption
                    · cases q3
                  have hlen := strRows_len str
                  obtain ⟨v', w', r1, r2, r3, r4⟩ := append_own_str (P := P) (w := w) t u o.type e it hu huu hit hzz (by rw [hsz, q1]) (by rw [hby, q2]) v m xs (by rw [← q1]; exact hown) str (by rw [← hlen]; omega) (by rw [← hlen]; rw [q2] at hbytes; omega)
                  exact ⟨v', w', Lib.strCells str, by rw [hv, hxv]; exact r1, by rw [q1, hlen]; exact r2, strRows_rel str, r3, r4⟩
                · cases hnew
              | false =>
                rw [hstr] at hc1
                simp only [Bool.false_eq_true, if_false, beq_iff_eq] at hc1
                subst hc1
                rw [hs] at hnew
                simp only [srcRows] at hnew
                rcases rowsOf_rel hr hnew hx with ⟨hxv, hn⟩ | ⟨ad, cap, hxv, _, _, hcell⟩
                · subst hn
                  have hrun := run_append_owned_none (P := P) (w := w) 0 t o.type e it j.size hu hit v m xs hown
                  exact ⟨v, w, [], by rw [hv, hxv]; exact hrun, by simpa using hown, .nil, ⟨rfl, rfl, rfl, Nat.le_refl _, fun _ _ _ => rfl⟩, fun b hb => .inl hb⟩
                · obtain ⟨ys, hall, hc⟩ := rows_cells hul hcell
                  have hyl : ys.length = new.length * j.size := by rw [← hall.length, flat_rows hul]
                  obtain ⟨v', w', r1, r2, r3, r4⟩ := append_own2 (P := P) (w := w) t o.type e it z j.size j.bytes hu hit hz hsz hby hzsz v m xs hown ad new.length cap ys hyl hc (one_allV hall) (by omega) hbytes
                  exact ⟨v', w', ys, by rw [hv, hxv]; exact r1, r2, hall, r3, r4⟩
            have hs' := hev s
            split at h
            · rename_i b hse
              rw [hse] at hs'
              split at h
              · rename_i e' k rows hb
                split at h
                · rename_i hek
                  obtain ⟨rfl, rfl⟩ := hek
                  cases h
                  obtain ⟨hul, g1, g2⟩ := hp''
                  obtain ⟨m, hm, hbr⟩ := hr.rel _ _ hb
                  cases hs' with | one hc => cases hc with | ar hμ _ =>
                  rw [hμ] at hm; cases hm
                  obtain ⟨xs, hown, hall, hkk⟩ := hbr
                  obtain ⟨v', w', ys, r1, r2, r3, r4, r5⟩ := main _ _ xs hown hul g1 g2 rfl
                  have hk : ∀ q, ok q → w'.heap[q]? = w.heap[q]? := fun q hq => grown_frame r4 (hr.keep hq).1 ((hr.okn q hq).2 b _ _ hb hμ)
                  have ho1 : v'.oneCell' = true := by rcases r2.2 with ⟨rfl, _⟩ | ⟨g, cap, cur, rfl, _⟩ <;> rfl
                  refine ⟨.value v', w', _, by rw [hexec, r1]; rfl, step_move (w' := w') (m' := .arr v') (blk' := .arr e' j.size (rows ++ new)) hr hb hμ r4.os r4.tape r4.output r4.size (fun q hq hn => grown_frame r4 hq hn) ⟨xs ++ ys, by simpa using r2, ?_, ?_⟩ r5, .inl ⟨v', rfl, .one (.ar ?_ ho1)⟩⟩
                  · rw [List.flatten_append]; exact (hall.append r3).mono fun _ _ h => h.mono hk fun _ h => h
                  · intro q hq; rcases List.mem_append.1 hq with h1 | h1
                    · exact hkk q h1
                    · exact hul q h1
                  · rw [← hr.len]; simp
                · cases h
              · cases h
            · rename_i hse
              rw [hse] at hs'
              cases h
              obtain ⟨hul, g1, g2⟩ := hp''
              have hsv : ρ s = .slice none 0 0 := by
                cases hsv : ρ s with
                | slice a l c => rw [hsv] at hs'; cases hs' with | one hc => cases hc; rfl
                | _ => rw [hsv] at hs'; cases hs' with | one hc => cases hc
              obtain ⟨v', w', ys, r1, r2, r3, r4, r5⟩ := main _ 0 [] (World.ownsRow_nil w 0 e j.size) hul (by omega) (by simpa using g2) hsv
              obtain ⟨s1, s2⟩ := arr_sound (w' := w') (e := e) (k := j.size) (rows := new) (xs := ys) (x := v') hr r4.os r4.tape r4.output r4.size (fun q hq => grown_frame r4 hq (by simp [Value.ownBlock])) (by simpa using r2) r3 hul (fun b hb => by rcases r5 b hb with h1 | h1; cases h1; exact h1)
              exact ⟨.value v', w', _, by rw [hexec, r1]; rfl, s1, .inl ⟨v', rfl, s2⟩⟩
            · rename_i rows hse
              rw [hse] at hs'
              split at h
              · cases h
              · rename_i hstr
                cases h
                obtain ⟨hul, hulr, g0, g1, g2⟩ := hp''
                rw [if_neg hstr] at hc1
                have htu : t = u := by simpa using hc1
                subst htu
                have hsv : ∃ a, ρ s = .slice a rows.length rows.length ∧ VRel w ok (.sl rows) (.slice a rows.length rows.length) := by
                  cases hsv : ρ s with
                  | slice a l c => rw [hsv] at hs'; cases hs' with | one hc => cases hc with | full hc => exact ⟨a, rfl, hc⟩
                  | _ => rw [hsv] at hs'; cases hs' with | one hc => cases hc
                obtain ⟨sa, hsv, hsr⟩ := hsv
                rw [hs] at hnew
                simp only [srcRows] at hnew
                rcases rowsOf_rel hr hnew (hev x) with ⟨hxv, hn⟩ | ⟨ad, cap, hxv, _, _, hcell⟩
                · subst hn; simp at g0
                · obtain ⟨ys, hall, hcy⟩ := rows_cells hul hcell
                  have hyl : ys.length = new.length * j.size := by rw [← hall.length, flat_rows hul]
                  rcases RowsAt.of_v hsr with ⟨he1, he2⟩ | ⟨bs, cs, he1, _, _, hcs⟩
                  · subst he2
                    cases he1
                    obtain ⟨v', w', r1, r2, r4, r5⟩ := append_own2 (P := P) (w := w) t o.type e it z j.size j.bytes hu hit hz hsz hby hzsz (.slice none 0 0) 0 [] (World.ownsRow_nil w 0 e j.size) ad new.length cap ys hyl hcy (one_allV hall) (by simpa using g1) (by simpa using g2)
                    obtain ⟨s1, s2⟩ := arr_sound (w' := w') (e := e) (k := j.size) (rows := [] ++ new) (xs := ys) (x := v') hr r4.os r4.tape r4.output r4.size (fun q hq => grown_frame r4 hq (by simp [Value.ownBlock])) (by simpa using r2) (by simpa using hall) (by simpa using hul) (fun b hb => by rcases r5 b hb with h1 | h1; cases h1; exact h1)
                    exact ⟨.value v', w', _, by rw [hexec, hsv, hxv]; simp only [List.length_nil]; rw [r1]; rfl, s1, .inl ⟨v', rfl, s2⟩⟩
                  · cases he1
                    obtain ⟨xs, hallx, hcx⟩ := rows_cells hulr hcs
                    have hxl : xs.length = rows.length * j.size := by rw [← hallx.length, flat_rows hulr]
                    have hr1 := run_append_grow (P := P) w t o.type e it z hu hit hz bs rows.length rows.length xs (by rw [hsz]; exact hxl) hcx ad new.length cap ys (by rw [hsz]; exact hyl) hcy (by omega) (by omega) (growslice_fits (by omega) (by rw [hby]; exact g2))
                    have hmx : rows.length + new.length ≤ maxLen := by unfold maxLen; omega
                    have ho := grown_owns (w := w) (e := e) hzsz hxl hyl (grownCap_ge w _ rows.length e) (grownCap_le_maxLen w _ rows.length e hmx)
                    have hul2 : UL j.size (rows ++ new) := by
                      intro q hq; rcases List.mem_append.1 hq with h1 | h1
                      · exact hulr q h1
                      · exact hul q h1
                    obtain ⟨s1, s2⟩ := arr_sound (w' := w.drew.alloc (.cells (xs.toArray ++ ys.toArray ++ Builtin.zeroCells z.cells (grownCap w (rows.length + new.length) rows.length e - (rows.length + new.length))) e)) (e := e) (k := j.size) (rows := rows ++ new) (xs := xs ++ ys) hr (grown_by (row := none) _).os (grown_by (row := none) _).tape (grown_by (row := none) _).output (grown_by (row := none) _).size (fun q hq => grown_frame (grown_by (row := none) _) hq (by simp)) (by simpa using ho) (by rw [List.flatten_append]; exact hallx.append hall) hul2 (fun b hb => by cases hb; exact Nat.le_refl _)
                    exact ⟨_, _, _, by rw [hexec, hsv, hxv, hr1]; rfl, s1, .inl ⟨_, rfl, s2⟩⟩
            · cases h
          · rw [if_neg hc] at h; cases h
        · cases h
      · cases h
    · cases h
  · cases h
end
end Go.Proofs.AE
set_option linter.unusedVariables false
set_option linter.unusedSimpArgs false
namespace Go.Proofs.AE
open Go Go.RowKit
def hasArj : Hp → Bool
  | [] => false
  | some (.arj _ _ _ _) :: _ => true
  | _ :: r => hasArj r
def srcJ (k : Nat) (hp : Hp) (v : AV) : Option (Nat × List (List V)) :=
  match v with
  | .one (.sub i k' off len _) => match hp[i]? with
    | some (some (.arj _ k'' _ rows)) => if k' = k ∧ k'' = k then some (len, rows.drop off) else none
    | _ => none
  | _ => (rowsOf hp v).map fun r => (r.length, r)
def wrRows (rows new : List (List V)) (off : Nat) : List (List V) := rows.take off ++ new ++ rows.drop (off + new.length)
def OvlF (P : Program) (g : Nat) (e : TypeId) : Prop :=
  ∃ fn tS tR, P.funcs[g]? = some fn ∧ (fn.name == "runtime.NumGoroutine") = false ∧ fn.body.isNone = true ∧ Extern.findNext fn = none ∧ Extern.find fn = some (Extern.SlicesOverlaps.overlaps #[tS, tS] #[tR]) ∧ P.underlying tS = some (.slice e)
def arjOp (P : Program) (hp : Hp) (ev : Operand → AV) : Op → Option (Prop × AV × Hp)
  | .store t a x => match tiOf P t, boxCells (ev x), ev a with
    | some i, some xs, .one (.eptr b r k off) => match hp[b]? with
      | some (some (.arj e k' c rows)) => match rows[r]?, vsOf xs with
        | some row, some vs => if xs.length = i.size ∧ k' = k ∧ off + i.size ≤ k then some (True, .any, hp.set b (some (.arj e k' c (rows.set r (row.take off ++ vs ++ row.drop (off + i.size)))))) else none
        | _, _ => none
      | _ => none
    | _, _, _ => none
  | .call { callee := .builtin .cap, args := args, argTypes := ts } => match args.toList, ts.toList with
    | [x], [t] => match (tiOf P t).map TI.sh, ev x with
      | some (.slice _), .one (.sub i k off len c) => some (True, .one (.v (.lit (.int .i64 ((c - off : Nat) : Int)))), hp)
      | _, _ => none
    | _, _ => none
  | .call { callee := .builtin .clear, args := args, argTypes := ts } => match args.toList, ts.toList with
    | [x], [t] => match (tiOf P t).map TI.sh, ev x with
      | some (.slice e), .one (.sub i k off len _) => match hp[i]?, tiOf P e with
        | some (some (.arj e' k' c rows)), some j => if k = j.size ∧ k' = k then
            some (off + len ≤ rows.length, .any, hp.set i (some (.arj e' k' c (wrRows rows (List.replicate len j.zero) off)))) else none
        | _, _ => none
      | _, _ => none
    | _, _ => none
  | .call { callee := .builtin .copy, args := args, argTypes := ts } => match args.toList, ts.toList with
    | [d, x], [t, u] => match (tiOf P t).map TI.sh, ev d with
      | some (.slice e), .one (.sub i k off len _) => match hp[i]?, tiOf P e with
        | some (some (.arj e' k' c rows)), some j => if k = j.size ∧ k' = k then match srcJ k hp (ev x) with
            | some (n, av) => some (UL k av ∧ min n len ≤ av.length ∧ off ≤ rows.length ∧ off + len ≤ c, .one (.v (.lit (.int .i64 (min n len : Nat)))), hp.set i (some (.arj e' k' c (wrRows rows (av.take (min n len)) off))))
            | none => none
          else none
        | _, _ => none
      | _, _ => none
    | _, _ => none
  | .call { callee := .builtin .append, args := args, argTypes := ts } => match args.toList, ts.toList with
    | [s, x], [t, u] => match (tiOf P t).map TI.sh, ev s with
      | some (.slice e), .one (.sub i k off len _) => match hp[i]?, tiOf P e with
        | some (some (.arj e' k' c rows)), some j => if k = j.size ∧ k' = k ∧ e' = e ∧ t = u then match ev x with
            | .one (.sub i2 k2 off2 len2 _) => if i2 = i ∧ k2 = k then
                some (off = 0 ∧ len ≤ rows.length ∧ off2 + len2 ≤ rows.length ∧ len + len2 ≤ c, .one (.sub i k off (len + len2) c), hp.set i (some (.arj e' k' c (wrRows rows ((rows.drop off2).take len2) len))))
              else none
            | vx => match rowsOf hp vx with
                | some new => some (UL k new ∧ off = 0 ∧ len ≤ rows.length ∧ len + new.length ≤ 9223372036854775807 ∧ (len + new.length) * j.bytes ≤ 140737488355328, .one (.ar hp.length), hp.set i none ++ [some (.arr e k (rows.take len ++ new))])
                | none => none
          else none
        | _, _ => none
      | _, _ => none
    | _, _ => none
  | .call { callee := .value fo, args := args, argTypes := _ } => match ev fo, args.toList with
    | .fn g [] [], [x, y] => match ev x, ev y with
      | .one (.ar i), .one (.sub j k off len _) => match hp[i]?, hp[j]? with
        | some (some (.arr e k' rows)), some (some (.arj e' k'' c rows')) => if i ≠ j ∧ e = e' ∧ (tiOf P e).isSome = true then some (OvlF P g e ∧ 0 < c ∧ 0 < rows.length, .one (.v (.lit (.bool false))), hp) else none
        | _, _ => none
      | _, _ => none
    | _, _ => none
  | _ => none
def arjNew (P : Program) (hp : Hp) (ev : Operand → AV) : Op → Option (Prop × Nat × (Nat → AV × Hp))
  | .call { callee := .builtin .append, args := args, argTypes := ts } => match args.toList, ts.toList with
    | [s, x], [t, u] => match (tiOf P t).map TI.sh, ev s with
      | some (.slice e), .one (.sub i k off len _) => match hp[i]?, tiOf P e with
        | some (some (.arj e' k' c rows)), some j => if k = j.size ∧ k' = k ∧ e' = e then match (tiOf P u).map TI.sh, ev x with
            | some (.int _), .one (.v (.lit (.int _ n))) =>
              some (0 < n ∧ off + len ≤ rows.length ∧ c < off + len + n ∧ len + n ≤ 9223372036854775807 ∧ (len + n) * j.bytes ≤ 140737488355328, len + n.toNat,
                fun c' => (.one (.sub hp.length k 0 (len + n.toNat) c'), hp ++ [some (.arj e k c' ((rows.drop off).take len ++ List.replicate n.toNat j.zero))]))
            | _, _ => none
          else none
        | _, _ => none
      | _, _ => none
    | _, _ => none
  | _ => none
def arjNewG (P : Program) (hp : Hp) (ev : Operand → AV) (op : Op) : Option (Prop × Nat × (Nat → AV × Hp)) := match hasArj hp with
  | true => arjNew P hp ev op
  | false => none
def arjOpG (P : Program) (hp : Hp) (ev : Operand → AV) (op : Op) : Option (Prop × AV × Hp) := match hasArj hp with
  | true => arjOp P hp ev op
  | false => none
def narrowR (hp : Hp) : AV → Option (Prop × Hp × AV)
  | .one (.sub i k off len _) => match hp[i]? with
    | some (some (.arj e k' c rows)) => if k' = k then some (off = 0 ∧ len ≤ rows.length, hp.set i none ++ [some (.arr e k (rows.take len))], .one (.ar hp.length)) else none
    | _ => none
  | _ => none
section
variable {P : Program} {w w' : World} {ok ok' : Nat → Prop} {μ μ' : List MB} {hp hp' : Hp}
theorem flatten_take {k : Nat} : ∀ {rows : List (List V)} (m : Nat), UL k rows → (rows.take m).flatten = rows.flatten.take (m * k)
  | [], m, _ => by simp
  | r :: rows, 0, _ => by simp
  | r :: rows, m + 1, h => by
    have h0 := h r (List.mem_cons_self ..)
    rw [List.take_succ_cons, List.flatten_cons, List.flatten_cons, flatten_take m (fun x hx => h x (List.mem_cons_of_mem _ hx)), show (m + 1) * k = r.length + m * k by rw [Nat.add_mul, h0]; omega, List.take_length_add_append]
theorem flatten_drop {k : Nat} : ∀ {rows : List (List V)} (m : Nat), UL k rows → (rows.drop m).flatten = rows.flatten.drop (m * k)
  | [], m, _ => by simp
  | r :: rows, 0, _ => by simp
  | r :: rows, m + 1, h => by
    have h0 := h r (List.mem_cons_self ..)
    rw [List.drop_succ_cons, List.flatten_cons, flatten_drop m (fun x hx => h x (List.mem_cons_of_mem _ hx)), show (m + 1) * k = r.length + m * k by rw [Nat.add_mul, h0]; omega, List.drop_length_add_append]
theorem UL.take {k : Nat} {rows : List (List V)} (h : UL k rows) (m : Nat) : UL k (rows.take m) := fun r hr => h r (List.mem_of_mem_take hr)
theorem UL.drop {k : Nat} {rows : List (List V)} (h : UL k rows) (m : Nat) : UL k (rows.drop m) := fun r hr => h r (List.mem_of_mem_drop hr)
theorem UL.app {k : Nat} {rows new : List (List V)} (h : UL k rows) (h' : UL k new) : UL k (rows ++ new) := fun r hr => by
  rcases List.mem_append.1 hr with h1 | h1
  · exact h r h1
  · exact h' r h1
theorem UL.wr {k off : Nat} {rows new : List (List V)} (h : UL k rows) (h' : UL k new) : UL k (wrRows rows new off) := ((h.take _).app h').app (h.drop _)
theorem seg_rel {k off : Nat} {rows new : List (List V)} {L xs : List Value} (hul : UL k rows) (hun : UL k new) (hoff : off ≤ rows.length)
    (h : All2 (VRel w ok) rows.flatten (L.take (rows.length * k))) (hn : All2 (VRel w ok) new.flatten xs) :
    All2 (VRel w ok) (wrRows rows new off).flatten ((L.take (off * k) ++ xs ++ L.drop (off * k + xs.length)).take ((wrRows rows new off).length * k)) := by
  have hxl : xs.length = new.length * k := by rw [← hn.length, flat_rows hun]
  have hok : off * k ≤ rows.length * k := Nat.mul_le_mul_right _ hoff
  have h1 : All2 (VRel w ok) (rows.take off).flatten (L.take (off * k)) := by
    rw [flatten_take off hul]
    have := h.take (off * k)
    rwa [List.take_take, Nat.min_eq_left hok] at this
  have h2 : All2 (VRel w ok) (rows.drop (off + new.length)).flatten ((L.take (rows.length * k)).drop (off * k + xs.length)) := by
    rw [flatten_drop _ hul, hxl, ← Nat.add_mul]
    exact h.drop _
  have h3 : All2 (VRel w ok) (wrRows rows new off).flatten (L.take (off * k) ++ xs ++ (L.take (rows.length * k)).drop (off * k + xs.length)) := by
    unfold wrRows
    rw [List.flatten_append, List.flatten_append]
    exact (h1.append hn).append h2
  have hl := h3.length
  rw [flat_rows (hul.wr hun)] at hl
  have e : L.take (off * k) ++ xs ++ L.drop (off * k + xs.length) = (L.take (off * k) ++ xs ++ (L.take (rows.length * k)).drop (off * k + xs.length)) ++ (L.drop (rows.length * k)).drop (off * k + xs.length - (L.take (rows.length * k)).length) := by
    conv => lhs; rw [← List.take_append_drop (rows.length * k) L]
    rw [List.drop_append, List.take_append_of_le_length (l₁ := L.take (rows.length * k)) (i := off * k)]
    · rw [List.take_take, Nat.min_eq_left hok]; simp [List.append_assoc]
    · have := h.length
      rw [flat_rows hul] at this
      omega
  rw [e, List.take_left' hl.symm]
  exact h3
theorem wr_len {rows new : List (List V)} {off : Nat} (h : off ≤ rows.length) : (wrRows rows new off).length = off + new.length + (rows.length - (off + new.length)) := by
  unfold wrRows
  simp only [List.length_append, List.length_take, List.length_drop]
  omega
theorem keep_row (hr : HR w ok μ hp) {i : Nat} {blk : Blk} {g n c : Nat} (hi : hp[i]? = some (some blk)) (hm : μ[i]? = some (.arr (.slice (some ⟨g, 0, none⟩) n c))) (cs : Array Value) {b : Nat} (hb : ok b) : (w.setRow g cs).heap[b]? = w.heap[b]? :=
  setRow_other w g b cs fun e => (hr.okn b hb).2 i blk _ hi hm (by subst e; rfl)
theorem arj_write (hr : HR w ok μ hp) {i : Nat} {e : TypeId} {k c g n off : Nat} {rows new : List (List V)} {cur : Array Value} {xs : List Value} (hi : hp[i]? = some (some (.arj e k c rows))) (hm : μ[i]? = some (.arr (.slice (some ⟨g, 0, none⟩) n c)))
    (hk : 0 < k) (hul : UL k rows) (hun : UL k new) (hg : w.heap[g]? = some (.cells cur e (0, 0))) (hc : c ≤ maxLen) (hcs : cur.size = c * k) (h : All2 (VRel w ok) rows.flatten (cur.toList.take (rows.length * k))) (hrc : rows.length ≤ c)
    (hoff : off ≤ rows.length) (hfit : off + new.length ≤ c) (hn : All2 (VRel w ok) new.flatten xs) :
    Step w ok μ hp (w.setRow g (cur.toList.take (off * k) ++ xs ++ cur.toList.drop (off * k + xs.length)).toArray) ok μ (hp.set i (some (.arj e k c (wrRows rows new off)))) := by
  have hxl : xs.length = new.length * k := by rw [← hn.length, flat_rows hun]
  have hle : off * k + xs.length ≤ c * k := by rw [hxl, ← Nat.add_mul]; exact Nat.mul_le_mul_right _ hfit
  refine step_set hr hi hm rfl rfl rfl (by simp) (fun b hb => setRow_other w g b _ fun e => hb (by subst e; rfl)) ?_
  refine ⟨hk, hul.wr hun, .inr ⟨g, n, _, rfl, setRow_heap w g cur _ e _ hg, by rw [wr_len hoff]; omega, hc, ?_, ?_⟩⟩
  · simp only [List.size_toArray, List.length_append, List.length_take, List.length_drop, Array.length_toList, hcs]
    have : off * k ≤ c * k := Nat.mul_le_mul_right _ (by omega)
    omega
  · exact (seg_rel hul hun hoff h hn).mono fun _ _ hv => hv.mono (fun b hb => keep_row hr hi hm _ hb) fun _ hb => hb
theorem sub_rel {x : Value} {i k off len cc : Nat} {e : TypeId} {c : Nat} {rows : List (List V)} (hr : HR w ok μ hp) (hv : AVRel w ok μ (.one (.sub i k off len cc)) x) (hi : hp[i]? = some (some (.arj e k c rows))) :
    cc = c ∧ ∃ m, μ[i]? = some (.arr m) ∧ SubOf k off len c m x ∧ 0 < k ∧ UL k rows ∧ ((m = .slice none 0 0 ∧ x = .slice none 0 0 ∧ c = 0 ∧ rows = [] ∧ len = 0) ∨
      ∃ g n cur o, m = .slice (some ⟨g, 0, none⟩) n c ∧ x = .slice (some ⟨g, o, none⟩) len (c - off) ∧ ((off < c ∨ off = 0) → o = off * k) ∧ w.heap[g]? = some (.cells cur e (0, 0)) ∧ rows.length ≤ c ∧ c ≤ maxLen ∧ cur.size = c * k ∧ All2 (VRel w ok) rows.flatten (cur.toList.take (rows.length * k))) := by
  obtain ⟨m, hm, hb⟩ := hr.rel _ _ hi
  cases hv with | one hc => cases hc with | sub _ _ _ _ hμ hs =>
  rw [hμ] at hm; cases hm
  obtain ⟨hk, hul, hb⟩ := hb
  have hcc : cc = c := by
    rcases hb with ⟨rfl, rfl, rfl⟩ | ⟨g, n, cur, rfl, h2, h3, h4, h5, h6⟩
    · cases hs with | nil h0 => rfl
    · cases hs with | «at» h0 => rfl
  subst hcc
  refine ⟨rfl, _, hμ, hs, hk, hul, ?_⟩
  rcases hb with ⟨rfl, rfl, rfl⟩ | ⟨g, n, cur, rfl, h2, h3, h4, h5, h6⟩
  · cases hs with | nil h0 => exact .inl ⟨rfl, rfl, rfl, rfl, h0⟩
  · cases hs with | «at» h0 => exact .inr ⟨g, n, cur, _, rfl, rfl, h0, h2, h3, h4, h5, h6⟩
theorem srcJ_rel {v : AV} {x : Value} {k n m : Nat} {av : List (List V)} (hr : HR w ok μ hp) (hv : AVRel w ok μ v x) (h : srcJ k hp v = some (n, av)) (hul : UL k av) (hm : m ≤ n) (hma : m ≤ av.length) :
    ∃ a c xs, x = .slice a n c ∧ All2 (VRel w ok) (av.take m).flatten xs ∧ (a = none → m = 0) ∧ ∀ b, a = some b → ∀ (j : Nat) u, xs[j]? = some u → w.cell? (b.add j) = some u := by
  unfold srcJ at h
  split at h
  · rename_i i k' off len cc
    split at h
    · rename_i e k'' c rows hi
      split at h
      · rename_i hk
        obtain ⟨rfl, rfl⟩ := hk
        cases h
        obtain ⟨rfl, mm, hμ, _, hk0, hulr, hc⟩ := sub_rel hr hv hi
        rcases hc with ⟨rfl, rfl, rfl, rfl, rfl⟩ | ⟨g, n', cur, o, rfl, rfl, ho, hg, hrc, hcm, hcs, hall⟩
        · have : m = 0 := by omega
          subst this
          exact ⟨none, 0, [], rfl, by simpa using All2.nil, fun _ => rfl, fun b hb => by cases hb⟩
        · refine ⟨_, _, ((cur.toList.take (rows.length * k'')).drop (off * k'')).take (m * k''), rfl, ?_, (fun h => by cases h), ?_⟩
          · rw [flatten_take m (hulr.drop off), flatten_drop off hulr]
            exact (hall.drop _).take _
          · intro b hb j u hu
            cases hb
            have hjl := lt_of_getElem? hu
            simp only [List.length_take, List.length_drop] at hjl
            rw [List.length_drop] at hma
            have hm0 : 0 < m := by
              rcases Nat.eq_zero_or_pos m with h0 | h0
              · rw [h0] at hjl; simp at hjl
              · exact h0
            rw [ho (by omega), Addr.add_lit]
            rw [List.getElem?_take, if_pos (by omega), List.getElem?_drop, List.getElem?_take] at hu
            split at hu
            · rw [cell_of_row w g _ cur e (0, 0) hg]
              simpa using hu
            · cases hu
      · cases h
    · cases h
  · obtain ⟨r, hr1, e1⟩ := Option.map_eq_some_iff.1 h
    cases e1
    rcases rowsOf_rel hr hr1 hv with ⟨rfl, rfl⟩ | ⟨ad, cap, rfl, _, _, hcell⟩
    · have : m = 0 := by simpa using hma
      subst this
      exact ⟨none, 0, [], rfl, by simpa using All2.nil, fun _ => rfl, fun b hb => by cases hb⟩
    · obtain ⟨ys, hall, hc⟩ := rows_cells hul hcell
      refine ⟨_, _, ys.take (m * k), rfl, ?_, (fun h => by cases h), ?_⟩
      · rw [flatten_take m hul]; exact hall.take _
      · intro b' hb j u hu
        cases hb
        rw [List.getElem?_take] at hu
        split at hu
        · exact hc j u hu
        · cases hu
theorem first_run {x : Value} {a : Option Addr} {n c m k : Nat} {xs : List Value} (hx : x = .slice a n c) (hl : xs.length = m * k) (h0 : a = none → m = 0) (h : ∀ b, a = some b → ∀ (j : Nat) u, xs[j]? = some u → w.cell? (b.add j) = some u) :
    (Builtin.firstCells k m x).run P w = .ok xs.toArray w := by
  subst hx
  cases a with
  | none =>
    have := h0 rfl
    subst this
    have : xs = [] := List.eq_nil_of_length_eq_zero (by simpa using hl)
    subst this
    exact run_firstCells_none (P := P) w k 0 n c
  | some b => exact run_firstCells_some (P := P) w k m b n c xs hl (h b rfl)
theorem run_copy_to (dT sT ty elem : TypeId) (k : Nat) (hu : P.underlying dT = some (.slice elem)) (hs : (sizeOf elem).run P w = .ok k w) {base : Option Addr} {dLen dCap n : Nat} {x : Value} {a : Option Addr} {c : Nat} (hx : x = .slice a n c) {xs : List Value} {w' : World}
    (hf : (Builtin.firstCells k (min n dLen) x).run P w = .ok xs.toArray w) (hst : ∀ b, base = some b → (storeCells b xs).run P w = .ok () w') (hno : base = none → w' = w) :
    (Builtin.copy_ #[dT, sT] ty #[.slice base dLen dCap, x]).run P w = .ok (.int .i64 (min n dLen : Nat)) w' := by
  subst hx
  cases base with
  | none =>
    obtain rfl := hno rfl
    simp [Builtin.copy_, run_underlying hu, Builtin.lenOf, hs, hf, goInt]
  | some b => simp [Builtin.copy_, run_underlying hu, Builtin.lenOf, hs, hf, hst b rfl, goInt]
end
end Go.Proofs.AE
set_option linter.unusedVariables false
set_option linter.unusedSimpArgs false
namespace Go.Proofs.AE
open Go Go.RowKit
section
variable {P : Program} {w w' : World} {ok ok' : Nat → Prop} {μ μ' : List MB} {hp hp' : Hp}
abbrev HOut (P : Program) (o : Oper) (ρ : Operand → Value) (w : World) (ok : Nat → Prop) (μ : List MB) (hp hp' : Hp) (r : AV) : Prop :=
  ∃ nx w' μ', (execOp ρ o).run P w = .ok nx w' ∧ Step w ok μ hp w' ok μ' hp' ∧ ((∃ x, nx = .value x ∧ AVRel w' ok μ' r x) ∨ (nx = .skip ∧ r = .any))
theorem zrows_rel {z : Value} {zs : List V} (h : All2 (VRel w ok) zs z.cells.toList) (n : Nat) : All2 (VRel w ok) (List.replicate n zs).flatten (Builtin.zeroCells z.cells n).toList := by
  have := madeCells_rel h n
  exact this
theorem copy_sound {o : Oper} {ρ : Operand → Value} {ev : Operand → AV} (hr : HR w ok μ hp) (hev : ∀ x, AVRel w ok μ (ev x) (ρ x)) {d x : Operand} {t u e : TypeId} {j : TI} {i off len cc n : Nat} {av : List (List V)}
    (ho : o.op = .call { callee := .builtin .copy, args := #[d, x], argTypes := #[t, u] }) (hu : P.underlying t = some (.slice e)) (hj : tiOf P e = some j) (hd : ev d = .one (.sub i j.size off len cc)) (hs : srcJ j.size hp (ev x) = some (n, av))
    (hul : UL j.size av) (hav : min n len ≤ av.length) :
    ∀ e' c rows, hp[i]? = some (some (.arj e' j.size c rows)) → off ≤ rows.length → off + len ≤ c → HOut P o ρ w ok μ hp (hp.set i (some (.arj e' j.size c (wrRows rows (av.take (min n len)) off)))) (.one (.v (.lit (.int .i64 (min n len : Nat))))) := by
  have hdv := hev d
  rw [hd] at hdv
  obtain ⟨sa, sc, xs, hx, hall, hnone, hcell⟩ := srcJ_rel hr (hev x) hs hul (Nat.min_le_left n len) hav
  have hnl : (av.take (min n len)).length = min n len := by rw [List.length_take]; omega
  have hxl : xs.length = min n len * j.size := by rw [← hall.length, flat_rows (hul.take _), hnl]
  have hfr := first_run (P := P) (k := j.size) hx hxl hnone hcell
  have hexec : ∀ {w'}, (Builtin.copy_ #[t, u] o.type #[ρ d, ρ x]).run P w = .ok (.int .i64 (min n len : Nat)) w' → (execOp ρ o).run P w = .ok (.value (.int .i64 (min n len : Nat))) w' := by
    intro w' h
    simp [execOp, ho, resolve, invoke, builtin, h]
  intro e' c rows hi h1 h2
  · obtain ⟨rfl, m, hμ, _, hk0, hulr, hc⟩ := sub_rel hr hdv hi
    rcases hc with ⟨rfl, hdx, rfl, rfl, rfl⟩ | ⟨g, n', cur, oo, rfl, hdx, hoo, hg, hrc, hcm, hcs, hrel⟩
    · have h0 : min n 0 = 0 := by omega
      have hrun := run_copy_to (P := P) (w' := w) t u o.type e j.size hu (run_sizeOf (tiOf_spec hj) w) (base := none) (dLen := 0) (dCap := 0) hx hfr (fun b hb => by cases hb) (fun _ => rfl)
      rw [hdx] at hexec
      refine ⟨_, w, μ, hexec hrun, ?_, .inl ⟨_, rfl, avlit rfl⟩⟩
      have he : hp.set i (some (.arj e' j.size 0 (wrRows [] (av.take (min n 0)) off))) = hp := by
        rw [h0]
        simp only [wrRows, List.take_nil, List.take_zero, List.drop_nil, List.append_nil]
        exact List.ext_getElem? fun q => by
          rw [List.getElem?_set]
          split
          · rename_i e; subst e; rw [hi, if_pos (lt_of_getElem? hi)]
          · rfl
      rw [he]
      exact Step.refl hr
    · by_cases hz : min n len = 0
      · have hxs : xs = [] := List.eq_nil_of_length_eq_zero (by rw [hxl, hz]; omega)
        subst hxs
        have hrun := run_copy_to (P := P) (w' := w) t u o.type e j.size hu (run_sizeOf (tiOf_spec hj) w) (base := some ⟨g, oo, none⟩) (dLen := len) (dCap := cc - off) hx hfr (fun b hb => rfl) (fun _ => rfl)
        rw [hdx] at hexec
        have s1 := arj_write (new := []) (xs := []) (off := off) hr hi hμ hk0 hulr (fun _ h => by simp at h) hg hcm hcs hrel hrc h1 (by simp; omega) (by simpa using All2.nil)
        refine ⟨_, _, μ, hexec hrun, ?_, .inl ⟨_, rfl, avlit rfl⟩⟩
        rw [hz]
        have he : w.setRow g (cur.toList.take (off * j.size) ++ [] ++ cur.toList.drop (off * j.size + ([] : List Value).length)).toArray = w := by
          simp only [List.append_nil, List.length_nil, Nat.add_zero, List.take_append_drop, Array.toArray_toList]
          exact setRow_self w g cur _ _ hg
        rw [he] at s1
        exact s1
      · have hooe := hoo (by omega)
        subst hooe
        have hfit : off * j.size + xs.length ≤ cur.size := by
          rw [hxl, hcs, ← Nat.add_mul]; exact Nat.mul_le_mul_right _ (by omega)
        have hst := run_storeCells_at P g (off * j.size) e' xs 0 cur w hg (by simpa using hfit) (one_allV hall)
        simp only [Nat.add_zero] at hst
        have hrun := run_copy_to (P := P) t u o.type e j.size hu (run_sizeOf (tiOf_spec hj) w) (base := some ⟨g, off * j.size, none⟩) (dLen := len) (dCap := cc - off) hx hfr (fun b hb => by cases hb; exact hst) (fun h => by cases h)
        rw [hdx] at hexec
        exact ⟨_, _, μ, hexec hrun, arj_write hr hi hμ hk0 hulr (hul.take _) hg hcm hcs hrel hrc h1 (by rw [hnl]; omega) hall, .inl ⟨_, rfl, avlit rfl⟩⟩
theorem clear_sound {o : Oper} {ρ : Operand → Value} {ev : Operand → AV} (hr : HR w ok μ hp) (hev : ∀ x, AVRel w ok μ (ev x) (ρ x)) {x : Operand} {t e e' : TypeId} {j : TI} {i off len cc c : Nat} {rows : List (List V)}
    (ho : o.op = .call { callee := .builtin .clear, args := #[x], argTypes := #[t] }) (hu : P.underlying t = some (.slice e)) (hj : tiOf P e = some j) (hd : ev x = .one (.sub i j.size off len cc)) (hi : hp[i]? = some (some (.arj e' j.size c rows)))
    (hle : off + len ≤ rows.length) : HOut P o ρ w ok μ hp (hp.set i (some (.arj e' j.size c (wrRows rows (List.replicate len j.zero) off)))) .any := by
  have hdv := hev x
  rw [hd] at hdv
  obtain ⟨it, hit, hsz, hby, z, hz, hzs, hzl⟩ := (tiOf_spec hj).info
  have hzz := zVs_rel (w := w) (ok := ok) hzs
  have hul0 : UL j.size (List.replicate len j.zero) := fun r hr => by rw [(List.mem_replicate.1 hr).2]; exact hzl
  have hall := zrows_rel hzz len
  obtain ⟨rfl, m, hμ, _, hk0, hulr, hc⟩ := sub_rel hr hdv hi
  have hzv : (zeroValue e).run P w = .ok z w := by simp [zeroValue, typeInfo, hit, hz]
  rcases hc with ⟨rfl, hdx, rfl, rfl, rfl⟩ | ⟨g, n', cur, oo, rfl, hdx, hoo, hg, hrc, hcm, hcs, hrel⟩
  · refine ⟨.value (.tuple #[]), w, μ, ?_, ?_, .inl ⟨_, rfl, .any⟩⟩
    · simp [execOp, ho, resolve, invoke, builtin, hdx, Builtin.clear_, run_underlying hu]
    · have he : hp.set i (some (.arj e' j.size 0 (wrRows [] (List.replicate 0 j.zero) off))) = hp := by
        simp only [wrRows, List.take_nil, List.replicate_zero, List.drop_nil, List.append_nil]
        exact List.ext_getElem? fun q => by
          rw [List.getElem?_set]
          split
          · rename_i e; subst e; rw [hi, if_pos (lt_of_getElem? hi)]
          · rfl
      rw [he]
      exact Step.refl hr
  · by_cases hz0 : len = 0
    · subst hz0
      have s1 := arj_write (new := []) (xs := []) (off := off) hr hi hμ hk0 hulr (fun _ h => by simp at h) hg hcm hcs hrel hrc (by omega) (by simp; omega) (by simpa using All2.nil)
      have he : w.setRow g (cur.toList.take (off * j.size) ++ [] ++ cur.toList.drop (off * j.size + ([] : List Value).length)).toArray = w := by
        simp only [List.append_nil, List.length_nil, Nat.add_zero, List.take_append_drop, Array.toArray_toList]
        exact setRow_self w g cur _ _ hg
      rw [he] at s1
      refine ⟨.value (.tuple #[]), w, μ, ?_, s1, .inl ⟨_, rfl, .any⟩⟩
      simp [execOp, ho, resolve, invoke, builtin, hdx, Builtin.clear_, run_underlying hu]
    · have hooe := hoo (by omega)
      subst hooe
      have hxl : (Builtin.zeroCells z.cells len).toList.length = len * j.size := by rw [← hall.length, flat_rows hul0]; simp
      have hfit : off * j.size + (Builtin.zeroCells z.cells len).toList.length ≤ cur.size := by
        rw [hxl, hcs, ← Nat.add_mul]; exact Nat.mul_le_mul_right _ (by omega)
      have hst := run_storeCells_at P g (off * j.size) e' (Builtin.zeroCells z.cells len).toList 0 cur w hg (by simpa using hfit) (one_allV hall)
      simp only [Nat.add_zero] at hst
      refine ⟨.value (.tuple #[]), _, μ, ?_, arj_write hr hi hμ hk0 hulr hul0 hg hcm hcs hrel hrc (by omega) (by simp; omega) hall, .inl ⟨_, rfl, .any⟩⟩
      have hzv' : ∀ w, (zeroValue e).run P w = .ok z w := fun w => by simp [zeroValue, typeInfo, hit, hz]
      obtain ⟨q, rfl⟩ : ∃ q, len = q + 1 := ⟨len - 1, by omega⟩
      obtain ⟨w2, hw2⟩ : ∃ w2, w.setRow g (cur.toList.take (off * j.size) ++ (Builtin.zeroCells z.cells (q + 1)).toList ++ cur.toList.drop (off * j.size + (Builtin.zeroCells z.cells (q + 1)).toList.length)).toArray = w2 := ⟨_, rfl⟩
      rw [hw2] at hst ⊢
      have hrun : (Builtin.clear_ #[t] o.type #[.slice (some ⟨g, off * j.size, none⟩) (q + 1) (cc - off)]).run P w = .ok (.tuple #[]) w2 := by
        simp [Builtin.clear_, run_underlying hu, hzv', hst]
      simp [execOp, ho, resolve, invoke, builtin, hdx, hrun]
theorem zeros_sound {o : Oper} {ρ : Operand → Value} {ev : Operand → AV} (hr : HR w ok μ hp) (hev : ∀ x, AVRel w ok μ (ev x) (ρ x)) {s x : Operand} {t u e : TypeId} {j : TI} {i off len cc c : Nat} {rows : List (List V)} {n : Int} {kq kn : IntKind}
    (ho : o.op = .call { callee := .builtin .append, args := #[s, x], argTypes := #[t, u] }) (hu : P.underlying t = some (.slice e)) (huu : P.underlying u = some (.int kn)) (hj : tiOf P e = some j) (hs : ev s = .one (.sub i j.size off len cc)) (hx : ev x = .one (.v (.lit (.int kq n)))) (hi : hp[i]? = some (some (.arj e j.size c rows)))
    (h0 : 0 < n) (h1 : off + len ≤ rows.length) (h2 : c < off + len + n) (h3 : len + n ≤ 9223372036854775807) (h4 : (len + n) * j.bytes ≤ 140737488355328) :
    ∃ c', len + n.toNat ≤ c' ∧ c' ≤ maxLen ∧ HOut P o ρ w ok μ hp (hp ++ [some (.arj e j.size c' ((rows.drop off).take len ++ List.replicate n.toNat j.zero))]) (.one (.sub hp.length j.size 0 (len + n.toNat) c')) := by
  have hsv := hev s
  rw [hs] at hsv
  have hxv := hev x
  rw [hx] at hxv
  have hxe := lit_rel hxv
  obtain ⟨it, hit, hsz, hby, z, hz, hzs, hzl⟩ := (tiOf_spec hj).info
  have hzz := zVs_rel (w := w) (ok := ok) hzs
  have hzsz : z.cells.size = j.size := by rw [← hzl]; have := hzz.length; simpa using this.symm
  obtain ⟨rfl, m, hμ, _, hk0, hulr, hc⟩ := sub_rel hr hsv hi
  have hsrc : srcJ j.size hp (.one (.sub i j.size off len cc)) = some (len, rows.drop off) := by simp [srcJ, hi]
  obtain ⟨a, sc, xs, hsx, hall, hnone, hcell⟩ := srcJ_rel hr hsv hsrc (hulr.drop off) (Nat.le_refl _) (by rw [List.length_drop]; omega)
  have htl : ((rows.drop off).take len).length = len := by rw [List.length_take, List.length_drop]; omega
  have hxl : xs.length = len * j.size := by rw [← hall.length, flat_rows ((hulr.drop off).take len), htl]
  have hsc : sc ≤ cc - off := by
    rcases hc with ⟨_, hdx, _, _, _⟩ | ⟨_, _, _, _, _, hdx, _⟩
    · rw [hsx] at hdx; cases hdx; omega
    · rw [hsx] at hdx; cases hdx; exact Nat.le_refl _
  obtain ⟨q, rfl⟩ : ∃ q : Nat, n = q := ⟨n.toNat, by omega⟩
  have hq : ((q : Int)).toNat = q := by omega
  rw [hq]
  have hb : (len + q) * it.bytes ≤ 140737488355328 := by
    rw [hby]
    have h5 : (((len + q) * j.bytes : Nat) : Int) = ((len : Int) + q) * j.bytes := by rw [Int.natCast_mul, Int.natCast_add]
    exact Int.ofNat_le.1 (by rw [h5]; exact h4)
  have hfr := first_run (P := P) (w := w.drew) (k := j.size) hsx hxl hnone (fun b hb j u hu => hcell b hb j u hu)
  rw [hsx] at hfr
  have hb2 : q * it.bytes ≤ 140737488355328 := Nat.le_trans (Nat.mul_le_mul_right _ (by omega)) hb
  have hrun := Lib.run_append_grow_zeros (P := P) w t u o.type e it z kq kn hu huu hit hz a len sc xs (by rw [hsz]; exact hfr) q (by omega) (by rw [hsz]; exact hk0) (by omega) (by omega) (by omega) (growslice_fits (by omega) hb)
  have hmx : len + q ≤ maxLen := by unfold maxLen; omega
  have hallz := zrows_rel hzz q
  have hul0 : UL j.size (List.replicate q j.zero) := fun r hr => by rw [(List.mem_replicate.1 hr).2]; exact hzl
  have hzl2 : (Builtin.zeroCells z.cells q).toList.length = q * j.size := by rw [← hallz.length, flat_rows hul0]; simp
  have hge := grownCap_ge w (len + q) sc e
  have hle := grownCap_le_maxLen w (len + q) sc e hmx
  have hown := grown_owns (w := w) (e := e) hzsz hxl hzl2 hge hle
  simp only [Array.toArray_toList] at hown
  obtain ⟨w2, hw2⟩ : ∃ w2, w.drew.alloc (.cells (xs.toArray ++ Builtin.zeroCells z.cells q ++ Builtin.zeroCells z.cells (grownCap w (len + q) sc e - (len + q))) e) = w2 := ⟨_, rfl⟩
  obtain ⟨C, hC⟩ : ∃ C, grownCap w (len + q) sc e = C := ⟨_, rfl⟩
  have hgb : w.grownBy w2 none := hw2 ▸ grown_by _
  rw [hw2, hC] at hown hrun
  rw [hC] at hge hle
  rcases hown.2 with ⟨hcon, _⟩ | ⟨g, cap, cur, hg0, _, hg, hnc, hcm, hcs, htake⟩
  · cases hcon
  cases hg0
  have hk : ∀ b, ok b → w2.heap[b]? = w.heap[b]? := fun b hb => grown_frame hgb (hr.keep hb).1 (by simp)
  have hrowsl : ((rows.drop off).take len ++ List.replicate q j.zero).length = len + q := by rw [List.length_append, htl, List.length_replicate]
  have s1 := step_new (w' := w2) (m := .arr (.slice (some ⟨w.heap.size, 0, none⟩) (len + q) C)) (blk := .arj e j.size C ((rows.drop off).take len ++ List.replicate q j.zero)) hr hgb.os hgb.tape hgb.output hgb.size (fun b hb => grown_frame hgb hb (by simp))
    ⟨hk0, ((hulr.drop off).take len).app hul0, .inr ⟨w.heap.size, len + q, cur, rfl, hg, by rw [hrowsl]; exact hge, hle, hcs, by
      rw [hrowsl, htake, List.flatten_append]
      exact (hall.append hallz).mono fun _ _ hv => hv.mono hk fun _ hb => hb⟩⟩ (fun b hb => by cases hb; exact Nat.le_refl _)
  have hat := SubOf.at (k := j.size) (off := 0) (len := len + q) (c := C) (g := w.heap.size) (n := len + q) (o := 0) (fun _ => by simp)
  refine ⟨C, hge, hle, _, w2, _, ?_, s1, .inl ⟨_, rfl, .one (.sub _ _ _ _ (i := hp.length) (by rw [← hr.len]; simp) hat)⟩⟩
  simp only [execOp, ho, resolve, invoke, builtin, List.map_toArray, List.map_cons, List.map_nil, hsx, hxe, Sem.run_bind, Sem.run_pure, Result.andThen_ok]
  rw [hrun]; rfl
theorem shift_sound {o : Oper} {ρ : Operand → Value} {ev : Operand → AV} (hr : HR w ok μ hp) (hev : ∀ x, AVRel w ok μ (ev x) (ρ x)) {s x : Operand} {t e : TypeId} {j : TI} {i len off2 len2 cc cc2 c : Nat} {rows : List (List V)}
    (ho : o.op = .call { callee := .builtin .append, args := #[s, x], argTypes := #[t, t] }) (hu : P.underlying t = some (.slice e)) (hj : tiOf P e = some j) (hs : ev s = .one (.sub i j.size 0 len cc)) (hx : ev x = .one (.sub i j.size off2 len2 cc2)) (hi : hp[i]? = some (some (.arj e j.size c rows)))
    (h1 : len ≤ rows.length) (h2 : off2 + len2 ≤ rows.length) (h3 : len + len2 ≤ c) :
    HOut P o ρ w ok μ hp (hp.set i (some (.arj e j.size c (wrRows rows ((rows.drop off2).take len2) len)))) (.one (.sub i j.size 0 (len + len2) c)) := by
  have hsv := hev s
  rw [hs] at hsv
  have hxv := hev x
  rw [hx] at hxv
  obtain ⟨it, hit, hsz, hby, z, hz, hzs, hzl⟩ := (tiOf_spec hj).info
  obtain ⟨rfl, m, hμ, _, hk0, hulr, hc⟩ := sub_rel hr hsv hi
  have hsrc : srcJ j.size hp (.one (.sub i j.size off2 len2 cc2)) = some (len2, rows.drop off2) := by simp [srcJ, hi]
  obtain ⟨a, sc, xs, hxx, hall, hnone, hcell⟩ := srcJ_rel hr hxv hsrc (hulr.drop off2) (Nat.le_refl _) (by rw [List.length_drop]; omega)
  have htl : ((rows.drop off2).take len2).length = len2 := by rw [List.length_take, List.length_drop]; omega
  have hxl : xs.length = len2 * j.size := by rw [← hall.length, flat_rows ((hulr.drop off2).take len2), htl]
  have hexec : ∀ {v w'}, (Builtin.append_ #[t, t] o.type #[ρ s, ρ x]).run P w = .ok v w' → (execOp ρ o).run P w = .ok (.value v) w' := by
    intro v w' h
    simp [execOp, ho, resolve, invoke, builtin, h]
  rcases hc with ⟨rfl, hsx, rfl, rfl, rfl⟩ | ⟨g, n', cur, oo, rfl, hsx, hoo, hg, hrc, hcm, hcs, hrel⟩
  · have h20 : len2 = 0 := by omega
    subst h20
    have hxn : ρ x = .slice none 0 0 := by
      cases hxv with | one hc => cases hc with | sub _ _ _ _ hμ' hs' => rw [hμ] at hμ'; cases hμ'; generalize ρ x = y at hs'; cases hs'; rfl
    have hrun : (Builtin.append_ #[t, t] o.type #[ρ s, ρ x]).run P w = .ok (.slice none 0 0) w := by
      rw [hsx, hxn]
      have := run_append_owned_none (P := P) (w := w) 0 t o.type e it j.size hu hit (.slice none 0 0) 0 [] (World.ownsRow_nil w 0 e j.size)
      exact this
    refine ⟨_, w, μ, hexec hrun, ?_, .inl ⟨_, rfl, .one (.sub _ _ _ _ hμ (.nil (by omega) rfl))⟩⟩
    have he : hp.set i (some (.arj e j.size 0 (wrRows [] ((([] : List (List V)).drop off2).take 0) 0))) = hp := by
      simp only [wrRows, List.take_nil, List.drop_nil, List.append_nil]
      exact List.ext_getElem? fun q => by
        rw [List.getElem?_set]
        split
        · rename_i e; subst e; rw [hi, if_pos (lt_of_getElem? hi)]
        · rfl
    rw [he]
    exact Step.refl hr
  · have hooe := hoo (.inr rfl)
    subst hooe
    have hst := arj_write (off := len) (xs := xs) hr hi hμ hk0 hulr ((hulr.drop off2).take len2) hg hcm hcs hrel hrc h1 (by rw [htl]; omega) hall
    have hoo' : (0 : Nat) * j.size = 0 := Nat.zero_mul _
    rw [hoo', Nat.sub_zero] at hsx
    have hsub : ∀ y, y = Value.slice (some ⟨g, 0, none⟩) (len + len2) cc → ∀ w', AVRel w' ok μ (.one (.sub i j.size 0 (len + len2) cc)) y := by
      rintro y rfl w'
      have := SubOf.at (k := j.size) (off := 0) (len := len + len2) (g := g) (n := n') (c := cc) (o := 0) (fun _ => by simp)
      exact .one (.sub _ _ _ _ hμ (by simpa using this))
    cases a with
    | none =>
      have h20 := hnone rfl
      subst h20
      have hxs : xs = [] := List.eq_nil_of_length_eq_zero (by simpa using hxl)
      subst hxs
      have hrun : (Builtin.append_ #[t, t] o.type #[ρ s, ρ x]).run P w = .ok (.slice (some ⟨g, 0, none⟩) (len + 0) cc) w := by
        rw [hsx, hxx]
        have hn : len + 0 ≤ cc := by omega
        simp [Builtin.append_, run_underlying hu, sizeOf, typeInfo, hit, Builtin.lenOf, Builtin.firstCells, storeCells, (by omega : len ≤ cc)]
        intro h; omega
      refine ⟨_, w, μ, hexec hrun, ?_, .inl ⟨_, rfl, hsub _ rfl w⟩⟩
      have he : w.setRow g (cur.toList.take (len * j.size) ++ [] ++ cur.toList.drop (len * j.size + ([] : List Value).length)).toArray = w := by
        simp only [List.append_nil, List.length_nil, Nat.add_zero, List.take_append_drop, Array.toArray_toList]
        exact setRow_self w g cur _ _ hg
      rw [he] at hst
      exact hst
    | some b =>
      have hfit : len * it.size + xs.length ≤ cur.size := by rw [hxl, hcs, hsz, ← Nat.add_mul]; exact Nat.mul_le_mul_right _ (by omega)
      have hrun := run_append_room (P := P) w t o.type e it hu hit g len cc cur hg b len2 sc xs (by rw [hsz]; exact hxl) (hcell b rfl) (one_allV hall) (by omega) hfit
      rw [hsz] at hrun
      exact ⟨_, _, μ, hexec (by rw [hsx, hxx]; exact hrun), hst, .inl ⟨_, rfl, hsub _ rfl _⟩⟩
theorem onto_sound {o : Oper} {ρ : Operand → Value} {ev : Operand → AV} (hr : HR w ok μ hp) (hev : ∀ x, AVRel w ok μ (ev x) (ρ x)) {s x : Operand} {t e : TypeId} {j : TI} {i len cc c : Nat} {rows new : List (List V)}
    (ho : o.op = .call { callee := .builtin .append, args := #[s, x], argTypes := #[t, t] }) (hu : P.underlying t = some (.slice e)) (hj : tiOf P e = some j) (hs : ev s = .one (.sub i j.size 0 len cc)) (hx : rowsOf hp (ev x) = some new) (hi : hp[i]? = some (some (.arj e j.size c rows)))
    (hul : UL j.size new) (h1 : len ≤ rows.length) (h3 : len + new.length ≤ 9223372036854775807) (h4 : (len + new.length) * j.bytes ≤ 140737488355328) :
    HOut P o ρ w ok μ hp (hp.set i none ++ [some (.arr e j.size (rows.take len ++ new))]) (.one (.ar hp.length)) := by
  have hsv := hev s
  rw [hs] at hsv
  obtain ⟨it, hit, hsz, hby, z, hz, hzs, hzl⟩ := (tiOf_spec hj).info
  have hzsz : z.cells.size = j.size := by rw [← hzl]; have := (zVs_rel (w := w) (ok := ok) hzs).length; simpa using this.symm
  obtain ⟨rfl, m, hμ, _, hk0, hulr, hc⟩ := sub_rel hr hsv hi
  have hexec : ∀ {v w'}, (Builtin.append_ #[t, t] o.type #[ρ s, ρ x]).run P w = .ok v w' → (execOp ρ o).run P w = .ok (.value v) w' := by
    intro v w' h
    simp [execOp, ho, resolve, invoke, builtin, h]
  have hmi : m.ownBlock = (MB.arr m).own := rfl
  have hown : ∃ xs, w.ownsRow 0 e j.size (ρ s) len xs ∧ All2 (VRel w ok) (rows.take len).flatten xs ∧ (ρ s).ownBlock = m.ownBlock := by
    rcases hc with ⟨rfl, hsx, rfl, rfl, rfl⟩ | ⟨g, n', cur, oo, rfl, hsx, hoo, hg, hrc, hcm, hcs, hrel⟩
    · rw [hsx]
      exact ⟨[], World.ownsRow_nil w 0 e j.size, by simpa using All2.nil, rfl⟩
    · have hooe := hoo (.inr rfl)
      subst hooe
      rw [Nat.zero_mul, Nat.sub_zero] at hsx
      have ht := hrel.take (len * j.size)
      rw [← flatten_take len hulr, List.take_take, Nat.min_eq_left (Nat.mul_le_mul_right _ h1)] at ht
      refine ⟨_, ⟨?_, .inr ⟨g, cc, cur, hsx, Nat.zero_le _, hg, by omega, hcm, hcs, rfl⟩⟩, ht, by rw [hsx]; rfl⟩
      rw [← ht.length, flat_rows (hulr.take len), List.length_take, Nat.min_eq_left h1]
  obtain ⟨xs, hown, hall, hob⟩ := hown
  have htl : (rows.take len).length = len := by rw [List.length_take]; omega
  have main : ∃ v' w' ys, (Builtin.append_ #[t, t] o.type #[ρ s, ρ x]).run P w = .ok v' w' ∧ w'.ownsRow 0 e j.size v' (len + new.length) (xs ++ ys) ∧ All2 (VRel w ok) new.flatten ys ∧ w.grownBy w' (ρ s).ownBlock ∧ (∀ b, v'.ownBlock = some b → (ρ s).ownBlock = some b ∨ w.heap.size ≤ b) := by
    rcases rowsOf_rel hr hx (hev x) with ⟨hxv, hn⟩ | ⟨ad, cap, hxv, _, _, hcell⟩
    · subst hn
      have hrun := run_append_owned_none (P := P) (w := w) 0 t o.type e it j.size hu hit (ρ s) len xs hown
      exact ⟨ρ s, w, [], by rw [hxv]; exact hrun, by simpa using hown, .nil, ⟨rfl, rfl, rfl, Nat.le_refl _, fun _ _ _ => rfl⟩, fun b hb => .inl hb⟩
    · obtain ⟨ys, hall, hc⟩ := rows_cells hul hcell
      have hyl : ys.length = new.length * j.size := by rw [← hall.length, flat_rows hul]
      obtain ⟨v', w', r1, r2, r3, r4⟩ := append_own2 (P := P) (w := w) t o.type e it z j.size j.bytes hu hit hz hsz hby hzsz (ρ s) len xs hown ad new.length cap ys hyl hc (one_allV hall) (by omega) h4
      exact ⟨v', w', ys, by rw [hxv]; exact r1, r2, hall, r3, r4⟩
  obtain ⟨v', w', ys, r1, r2, r3, r4, r5⟩ := main
  rw [hob] at r4 r5
  have hk : ∀ q, ok q → w'.heap[q]? = w.heap[q]? := fun q hq => grown_frame r4 (hr.keep hq).1 ((hr.okn q hq).2 i _ _ hi hμ)
  have ho1 : v'.oneCell' = true := by rcases r2.2 with ⟨rfl, _⟩ | ⟨g, cap, cur, rfl, _⟩ <;> rfl
  refine ⟨.value v', w', _, hexec r1, step_move (w' := w') (m' := .arr v') (blk' := .arr e j.size (rows.take len ++ new)) hr hi hμ r4.os r4.tape r4.output r4.size (fun q hq hn => grown_frame r4 hq hn) ⟨xs ++ ys, by rw [List.length_append, htl]; exact r2, ?_, (hulr.take len).app hul⟩ r5, .inl ⟨v', rfl, .one (.ar ?_ ho1)⟩⟩
  · rw [List.flatten_append]; exact (hall.append r3).mono fun _ _ h => h.mono hk fun _ h => h
  · rw [← hr.len]; simp
theorem overlaps_sound {o : Oper} {ρ : Operand → Value} {ev : Operand → AV} (hr : HR w ok μ hp) (hev : ∀ x, AVRel w ok μ (ev x) (ρ x)) {fo x y : Operand} {ts : Array TypeId} {g i j k k' k'' off len cc c : Nat} {e : TypeId} {ti : TI} {rows rows' : List (List V)}
    (ho : o.op = .call { callee := .value fo, args := #[x, y], argTypes := ts }) (hf : ev fo = .fn g [] []) (hx : ev x = .one (.ar i)) (hy : ev y = .one (.sub j k off len cc)) (hi : hp[i]? = some (some (.arr e k' rows))) (hj : hp[j]? = some (some (.arj e k'' c rows')))
    (hij : i ≠ j) (hti : tiOf P e = some ti) (hov : OvlF P g e) (hc0 : 0 < c) (hr0 : 0 < rows.length) : HOut P o ρ w ok μ hp hp (.one (.v (.lit (.bool false)))) := by
  obtain ⟨fn, tS, tR, h1, h2, h3, h4, h5, h6⟩ := hov
  have hfr := hev fo
  rw [hf] at hfr
  have hxv := hev x
  rw [hx] at hxv
  have hyv := hev y
  rw [hy] at hyv
  have hcall := fun args => run_callFunc_extern (P := P) h1 h2 h3 h4 h5 args w
  obtain ⟨mi, hmi, hbi⟩ := hr.rel _ _ hi
  cases mi with
  | box => exact hbi.elim
  | arr xi =>
  have hρx : ρ x = xi := by cases hxv with | one hc => cases hc with | ar hμ _ => rw [hmi] at hμ; cases hμ; rfl
  obtain ⟨mj, hmj, hbj⟩ := hr.rel _ _ hj
  cases mj with
  | box => exact hbj.elim
  | arr xj =>
  have hs : SubOf k off len cc xj (ρ y) := by
    cases hyv with | one hc => cases hc with | sub _ _ _ _ hμ' hs => rw [hmj] at hμ'; cases hμ'; exact hs
  cases hfv : ρ fo with
  | func fnv fs cs =>
    rw [hfv] at hfr
    cases hfr with | fn hfirst hcaps =>
    have hfs : fs = #[] := by cases hh : fs.toList with | nil => exact Array.ext' (by simpa using hh) | cons => rw [hh] at hfirst; cases hfirst
    have hcs : cs = #[] := by cases hh : cs.toList with | nil => exact Array.ext' (by simpa using hh) | cons => rw [hh] at hcaps; cases hcaps
    subst hfs; subst hcs
    have hexec : ∀ {v : Value}, ((Extern.SlicesOverlaps.overlaps #[tS, tS] #[tR]) #[ρ x, ρ y]).run P w = .ok v w → (execOp ρ o).run P w = .ok (.value v) w := by
      intro v hv
      have hc := hcall #[ρ x, ρ y]
      rw [hv] at hc
      simp only [execOp, ho, resolve, hfv, Deferred.ofValue, Sem.run_bind, Sem.run_pure, Result.andThen_ok, invoke, List.map_toArray, List.map_cons, List.map_nil]
      simpa using hc
    have hrun : ((Extern.SlicesOverlaps.overlaps #[tS, tS] #[tR]) #[ρ x, ρ y]).run P w = .ok (.bool false) w := by
      have hbi' := hbi
      obtain ⟨xs, hown, _, _⟩ := hbi
      obtain ⟨hk0, hulj, hbj⟩ := hbj
      have hsz := fun w => run_sizeOf (tiOf_spec hti) w
      rcases hbj with ⟨rfl, rfl, _⟩ | ⟨gj, n', cur, rfl, hg, hrc, hcm, hcs, _⟩
      · omega
      · generalize hyy : ρ y = yv at hs
        cases hs with | «at» ho' =>
        rcases hown.2 with ⟨rfl, hn0⟩ | ⟨gi, cap, curi, rfl, _, hgi, _⟩
        · omega
        · rw [hρx]
          have hne : gi ≠ gj := fun e' => hr.inj i j _ _ _ _ gi hij hi hj hmi hmj rfl (by subst e'; rfl)
          refine Lib.run_overlaps_apart (P := P) w tS tR e h6 ti.size hsz ⟨gi, 0, none⟩ ⟨gj, _, none⟩ _ _ _ _ hne e e curi.size cur.size ?_ ?_ ?_ ?_ ?_
          · simp [World.shape?, hgi]
          · simp [World.shape?, hg]
          · rw [hcs]; exact Nat.mul_ne_zero (by omega) (by omega)
          · simp [World.frozen?, hgi]
          · simp [World.frozen?, hgi]
    exact ⟨_, w, μ, hexec hrun, Step.refl hr, .inl ⟨_, rfl, avlit rfl⟩⟩
  | _ => rw [hfv] at hfr; cases hfr
theorem arj_store {o : Oper} {ρ : Operand → Value} {ev : Operand → AV} {p : Prop} {r : AV} (hr : HR w ok μ hp) (hev : ∀ x, AVRel w ok μ (ev x) (ρ x)) {t : TypeId} {a x : Operand} (he : o.op = .store t a x)
    (h : arjOp P hp ev o.op = some (p, r, hp')) (hp0 : p) : HOut P o ρ w ok μ hp hp' r := by
  rw [he] at h
  simp only [arjOp] at h
  split at h
  · rename_i i cs b r' k off hti hxs hae
    split at h
    · rename_i e k' c rows hb
      split at h
      · rename_i row vs hrow hvs
        split at h
        · rename_i hk
          obtain ⟨hl, rfl, hle⟩ := hk
          cases h
          have hx := boxCells_rel hxs (hev x)
          have ha := hev a
          rw [hae] at ha
          obtain ⟨m, hm, hbr⟩ := hr.rel _ _ hb
          cases hav : ρ a with
          | pointer ad =>
            rw [hav] at ha
            cases ha with | one hc => cases hc with | @eptr _ g len cap _ _ _ hμ =>
            rw [hμ] at hm; cases hm
            obtain ⟨hk0, hul, hbr⟩ := hbr
            have hxv := vsOf_rel hvs hx
            rcases hbr with ⟨hnil, _⟩ | ⟨g', n', cur, heq, hg, hnc, hcm, hcs, hall⟩
            · cases hnil
            · cases heq
              have hrl := lt_of_getElem? hrow
              have hrlen := hul row (List.mem_of_getElem? hrow)
              have hbound : r' * k' + k' ≤ rows.length * k' := by
                have : (r' + 1) * k' ≤ rows.length * k' := Nat.mul_le_mul_right _ hrl
                rw [Nat.add_mul] at this; omega
              have hcap : rows.length * k' ≤ cur.size := by rw [hcs]; exact Nat.mul_le_mul_right _ hnc
              have hfit : (r' * k' + off) + i.size ≤ cur.size := by omega
              have hrun := store_run (tiOf_spec hti) hx hl hg hfit
              have hframe : ∀ q, q ≠ g → (w.setRow g (cur.toList.take (r' * k' + off) ++ (ρ x).cells.toList ++ cur.toList.drop (r' * k' + off + i.size)).toArray).heap[q]? = w.heap[q]? := fun q hq => setRow_other w g q _ hq
              have hxl : (ρ x).cells.toList.length = i.size := by rw [← hx.length, hl]
              have hvl : vs.length = i.size := by rw [hxv.length, hxl]
              refine ⟨.skip, _, _, ?_, step_set (blk' := .arj e k' c (rows.set r' (row.take off ++ vs ++ row.drop (off + i.size)))) (w' := w.setRow g (cur.toList.take (r' * k' + off) ++ (ρ x).cells.toList ++ cur.toList.drop (r' * k' + off + i.size)).toArray) hr hb hμ rfl rfl rfl (by simp) (fun q hq => hframe q (fun e => hq (by rw [e]; rfl))) ⟨hk0, ?_, .inr ⟨g, len, _, rfl, setRow_heap w g cur _ _ _ hg, by simpa using hnc, hcm, ?_, ?_⟩⟩, .inr ⟨rfl, rfl⟩⟩
              · simp only [execOp, he, hav, Sem.run_bind, hrun, Result.andThen_ok]; rfl
              · intro q hq
                rcases List.mem_or_eq_of_mem_set hq with h1 | h1
                · exact hul q h1
                · subst h1; simp only [List.length_append, List.length_take, List.length_drop]; omega
              · simp only [List.size_toArray, List.length_append, List.length_take, List.length_drop, Array.length_toList, hxl]; omega
              · have hk : ∀ q, ok q → (w.setRow g (cur.toList.take (r' * k' + off) ++ (ρ x).cells.toList ++ cur.toList.drop (r' * k' + off + i.size)).toArray).heap[q]? = w.heap[q]? := fun q hq => hframe q (fun e => (hr.okn q hq).2 b _ _ hb hμ (by rw [e]; rfl))
                have hfl : (rows.set r' (row.take off ++ vs ++ row.drop (off + i.size))).flatten = rows.flatten.take (r' * k' + off) ++ vs ++ rows.flatten.drop (r' * k' + off + i.size) :=
                  set_flatten hul hrow hrl (row.take off ++ vs ++ row.drop (off + i.size)) off i.size hle vs rfl
                have hcut : ((cur.toList.take (r' * k' + off) ++ (ρ x).cells.toList ++ cur.toList.drop (r' * k' + off + i.size)).toArray.toList).take ((rows.set r' (row.take off ++ vs ++ row.drop (off + i.size))).length * k') = (cur.toList.take (rows.length * k')).take (r' * k' + off) ++ (ρ x).cells.toList ++ (cur.toList.take (rows.length * k')).drop (r' * k' + off + i.size) := by
                  have h1 : (cur.toList.take (r' * k' + off)).length = r' * k' + off := by rw [List.length_take, Array.length_toList]; omega
                  rw [List.length_set, List.append_assoc, List.append_assoc, List.take_append, h1, List.take_append, hxl, List.take_take, List.take_take, Nat.min_eq_right (by omega), Nat.min_eq_left (by omega), List.take_of_length_le (by omega : (ρ x).cells.toList.length ≤ rows.length * k' - (r' * k' + off)), List.drop_take]
                  congr 3
                  omega
                rw [hfl, hcut]
                exact (((hall.take _).append hxv).append (hall.drop _)).mono fun _ _ h => h.mono hk fun _ h => h
          | _ => rw [hav] at ha; cases ha with | one hc => cases hc
        · cases h
      · cases h
    · cases h
  · cases h
theorem arjOp_sound {o : Oper} {ρ : Operand → Value} {ev : Operand → AV} {p : Prop} {r : AV} (hr : HR w ok μ hp) (hev : ∀ x, AVRel w ok μ (ev x) (ρ x))
    (h : arjOp P hp ev o.op = some (p, r, hp')) (hp0 : p) : HOut P o ρ w ok μ hp hp' r := by
  have h00 := h
  unfold arjOp at h
  split at h
  · rename_i t a x ho
    exact arj_store hr hev ho h00 hp0
  · rename_i args ts ho
    split at h
    · rename_i x t hargs hts
      obtain rfl : args = #[x] := by apply Array.ext'; simpa using hargs
      obtain rfl : ts = #[t] := by apply Array.ext'; simpa using hts
      split at h
      · rename_i e i k off len c hs hx
        cases h
        obtain ⟨ti, hi1, hi2⟩ := Option.map_eq_some_iff.1 hs
        have hu := (tiOf_spec hi1).slice hi2
        have he : P.elem t = e := by simp [Program.elem, hu]
        have hu' : P.underlying t = some (.slice (P.elem t)) := by rw [he]; exact hu
        have hxv := hev x
        rw [hx] at hxv
        cases hxv with | one hc => cases hc with | sub _ _ _ _ hμ hs =>
        obtain ⟨a, hxe⟩ := sub_len hs
        exact ⟨_, w, μ, by simp [execOp, ho, resolve, invoke, builtin, hxe, run_cap_slice w t _ _ _ _ hu', goInt], Step.refl hr, .inl ⟨_, rfl, avlit rfl⟩⟩
      · cases h
    · cases h
  · rename_i args ts ho
    split at h
    · rename_i x t hargs hts
      obtain rfl : args = #[x] := by apply Array.ext'; simpa using hargs
      obtain rfl : ts = #[t] := by apply Array.ext'; simpa using hts
      split at h
      · rename_i e i k off len cc hs hx
        split at h
        · rename_i e' k' c rows j hi hj
          split at h
          · rename_i hk
            obtain ⟨rfl, rfl⟩ := hk
            cases h
            obtain ⟨ti, hi1, hi2⟩ := Option.map_eq_some_iff.1 hs
            exact clear_sound hr hev ho ((tiOf_spec hi1).slice hi2) hj hx hi hp0
          · cases h
        · cases h
      · cases h
    · cases h
  · rename_i args ts ho
    split at h
    · rename_i d x t u hargs hts
      obtain rfl : args = #[d, x] := by apply Array.ext'; simpa using hargs
      obtain rfl : ts = #[t, u] := by apply Array.ext'; simpa using hts
      split at h
      · rename_i e i k off len cc hs hd
        obtain ⟨ti, hi1, hi2⟩ := Option.map_eq_some_iff.1 hs
        have hu := (tiOf_spec hi1).slice hi2
        split at h
        · rename_i e' k' c rows j hi hj
          split at h
          · rename_i hk
            obtain ⟨rfl, rfl⟩ := hk
            split at h
            · rename_i n av hsrc
              cases h
              obtain ⟨h1, h2, h3, h4⟩ := hp0
              exact copy_sound hr hev ho hu hj hd hsrc h1 h2 _ _ _ hi h3 h4
            · cases h
          · cases h
        · cases h
      · cases h
    · cases h
  · rename_i args ts ho
    split at h
    · rename_i s x t u hargs hts
      obtain rfl : args = #[s, x] := by apply Array.ext'; simpa using hargs
      obtain rfl : ts = #[t, u] := by apply Array.ext'; simpa using hts
      split at h
      · rename_i e i k off len cc hs hd
        obtain ⟨ti, hi1, hi2⟩ := Option.map_eq_some_iff.1 hs
        have hu := (tiOf_spec hi1).slice hi2
        split at h
        · rename_i e' k' c rows j hi hj
          split at h
          · rename_i hk
            obtain ⟨rfl, rfl, rfl, rfl⟩ := hk
            split at h
            · rename_i i2 k2 off2 len2 cc2 hx
              split at h
              · rename_i hk
                obtain ⟨rfl, rfl⟩ := hk
                cases h
                obtain ⟨rfl, h1, h2, h3⟩ := hp0
                exact shift_sound hr hev ho hu hj hd hx hi h1 h2 h3
              · cases h
            · split at h
              · rename_i new hnew
                cases h
                obtain ⟨h0, rfl, h1, h2, h3⟩ := hp0
                exact onto_sound hr hev ho hu hj hd hnew hi h0 h1 h2 h3
              · cases h
          · cases h
        · cases h
      · cases h
    · cases h
  · rename_i fo args ts ho
    split at h
    · rename_i g x y hf hargs
      obtain rfl : args = #[x, y] := by apply Array.ext'; simpa using hargs
      split at h
      · rename_i i j k off len cc hx hy
        split at h
        · rename_i e k' rows e' k'' c rows' hi hj
          split at h
          · rename_i hk
            obtain ⟨hij, rfl, hti⟩ := hk
            cases h
            obtain ⟨ti, hti⟩ := Option.isSome_iff_exists.1 hti
            obtain ⟨h1, h2, h3⟩ := hp0
            exact overlaps_sound hr hev ho hf hx hy hi hj hij hti h1 h2 h3
          · cases h
        · cases h
      · cases h
    · cases h
  · cases h
theorem arjNewG_sound {o : Oper} {ρ : Operand → Value} {ev : Operand → AV} {p : Prop} {lo : Nat} {F : Nat → AV × Hp} (hr : HR w ok μ hp) (hev : ∀ x, AVRel w ok μ (ev x) (ρ x))
    (h : arjNewG P hp ev o.op = some (p, lo, F)) (hp0 : p) : ∃ c, lo ≤ c ∧ c ≤ maxLen ∧ HOut P o ρ w ok μ hp (F c).2 (F c).1 := by
  unfold arjNewG at h
  split at h
  · unfold arjNew at h
    split at h
    · rename_i args ts ho
      split at h
      · rename_i s x t u hargs hts
        obtain rfl : args = #[s, x] := by apply Array.ext'; simpa using hargs
        obtain rfl : ts = #[t, u] := by apply Array.ext'; simpa using hts
        split at h
        · rename_i e i k off len cc hs hd
          obtain ⟨ti, hi1, hi2⟩ := Option.map_eq_some_iff.1 hs
          have hu := (tiOf_spec hi1).slice hi2
          split at h
          · rename_i e' k' c rows j hi hj
            split at h
            · rename_i hk
              obtain ⟨rfl, rfl, rfl⟩ := hk
              split at h
              · rename_i kn kq n hsu hx
                cases h
                obtain ⟨tu, hu1, hu2⟩ := Option.map_eq_some_iff.1 hsu
                obtain ⟨h0, h1, h2, h3, h4⟩ := hp0
                exact zeros_sound hr hev ho hu ((tiOf_spec hu1).int hu2) hj hd hx hi h0 h1 h2 h3 h4
              · cases h
            · cases h
          · cases h
        · cases h
      · cases h
    · cases h
  · cases h
theorem arjOpG_sound {o : Oper} {ρ : Operand → Value} {ev : Operand → AV} {p : Prop} {r : AV} (hr : HR w ok μ hp) (hev : ∀ x, AVRel w ok μ (ev x) (ρ x))
    (h : arjOpG P hp ev o.op = some (p, r, hp')) (hp0 : p) : HOut P o ρ w ok μ hp hp' r := by
  unfold arjOpG at h
  split at h
  · exact arjOp_sound hr hev h hp0
  · cases h
theorem narrow_step {hp1 : Hp} {v r1 : AV} {x : Value} {p : Prop} (hr : HR w ok μ hp) (hv : AVRel w ok μ v x) (h : narrowR hp v = some (p, hp1, r1)) (hp0 : p) : ∃ μ', Step w ok μ hp w ok μ' hp1 ∧ AVRel w ok μ' r1 x := by
  unfold narrowR at h
  split at h
  · rename_i i k off len cc
    split at h
    · rename_i e k' c rows hi
      split at h
      · rename_i hk
        subst hk
        cases h
        obtain ⟨rfl, h1⟩ := hp0
        obtain ⟨rfl, m, hμ, _, hk0, hulr, hc⟩ := sub_rel hr hv hi
        have hown : ∃ xs, w.ownsRow 0 e k' x len xs ∧ All2 (VRel w ok) (rows.take len).flatten xs ∧ x.ownBlock = m.ownBlock := by
          rcases hc with ⟨rfl, rfl, rfl, rfl, rfl⟩ | ⟨g, n', cur, oo, rfl, rfl, hoo, hg, hrc, hcm, hcs, hrel⟩
          · exact ⟨[], World.ownsRow_nil w 0 e k', by simpa using All2.nil, rfl⟩
          · have hooe := hoo (.inr rfl)
            subst hooe
            rw [Nat.zero_mul, Nat.sub_zero]
            have ht := hrel.take (len * k')
            rw [← flatten_take len hulr, List.take_take, Nat.min_eq_left (Nat.mul_le_mul_right _ h1)] at ht
            refine ⟨_, ⟨?_, .inr ⟨g, cc, cur, rfl, Nat.zero_le _, hg, by omega, hcm, hcs, rfl⟩⟩, ht, rfl⟩
            rw [← ht.length, flat_rows (hulr.take len), List.length_take, Nat.min_eq_left h1]
        obtain ⟨xs, hown, hall, hob⟩ := hown
        have htl : (rows.take len).length = len := by rw [List.length_take]; omega
        have ho1 : x.oneCell' = true := by rcases hown.2 with ⟨rfl, _⟩ | ⟨g, cap, cur, rfl, _⟩ <;> rfl
        refine ⟨μ ++ [.arr x], step_move (w' := w) (m' := .arr x) (blk' := .arr e k' (rows.take len)) hr hi hμ rfl rfl rfl (Nat.le_refl _) (fun _ _ _ => rfl) ⟨xs, by rw [htl]; exact hown, hall, hulr.take len⟩ (fun b hb => .inl (by have hb' : x.ownBlock = some b := hb; show m.ownBlock = some b; rw [← hob]; exact hb')), .one (.ar ?_ ho1)⟩
        rw [← hr.len]; simp
      · cases h
    · cases h
  · cases h
end
end Go.Proofs.AE
set_option linter.unusedVariables false
set_option linter.unusedSimpArgs false
namespace Go.Proofs.AE
open Go Go.RowKit
def mapOp (P : Program) (hp : Hp) (ev : Operand → AV) : Op → Option (Prop × AV × Hp)
  | .makeMap t none => match mapTy P t with
    | some _ => some (True, .one (.mp hp.length), hp ++ [some (.mp t [])])
    | none => none
  | .mapUpdate t m k v => match mapTy P t, ev m, ev k, ev v with
    | some _, .one (.mp i), .one (.v (.lit (.string s))), .one (.v (.lit x)) => match hp[i]? with
      | some (some (.mp u es)) => some (True, .any, hp.set i (some (.mp u (mpPut es s x))))
      | _ => none
    | _, _, _, _ => none
  | .call { callee := .builtin .delete, args := args, argTypes := ts } => match args.toList, ts.toList with
    | [m, k], [t, _] => match mapTy P t, ev m, ev k with
      | some _, .one (.mp i), .one (.v (.lit (.string s))) => match hp[i]? with
        | some (some (.mp u es)) => some (True, .any, hp.set i (some (.mp u (mpDel es s))))
        | _ => none
      | _, _, _ => none
    | _, _ => none
  | _ => none
def exOp (P : Program) (hp : Hp) (ev : Operand → AV) (op : Op) : Option (Prop × AV × Hp) := match mapOp P hp ev op with
  | some r => some r
  | none => arjOpG P hp ev op
section
variable {P : Program} {w w' : World} {ok ok' : Nat → Prop} {μ μ' : List MB} {hp hp' : Hp}
theorem mp_write (hr : HR w ok μ hp) {i b : Nat} {t : TypeId} {es es' : List (ByteArray × Value)} {ms ms' : Array MapEntry} {clock clock' : Nat} (hi : hp[i]? = some (some (.mp t es))) (hm : μ[i]? = some (.box b)) (hb : w.heap[b]? = some (.map ms clock))
    (h1 : ms'.toList.map (fun e => (e.key, e.val)) = es'.map (fun e => (Value.string e.1, e.2))) (h2 : ∀ e ∈ es', e.2.oneCell' = true) :
    Step w ok μ hp { w with heap := w.heap.setIfInBounds b (.map ms' clock') } ok μ (hp.set i (some (.mp t es'))) :=
  step_set hr hi hm rfl rfl rfl (by simp) (fun c hc => (MapKept.heap_set hb).2 c fun e => hc (by subst e; rfl)) ⟨ms', clock', (MapKept.heap_set hb).1, h1, h2⟩
theorem map_erase {α β : Type} (f : α → β) : ∀ (l : List α) (n : Nat), (l.eraseIdx n).map f = (l.map f).eraseIdx n
  | [], _ => rfl
  | _ :: _, 0 => rfl
  | a :: l, n + 1 => by simp [map_erase f l n]
theorem put_ok {es : List (ByteArray × Value)} {s : ByteArray} {x : Value} (h : ∀ e ∈ es, e.2.oneCell' = true) (hx : x.oneCell' = true) : ∀ e ∈ mpPut es s x, e.2.oneCell' = true := by
  induction es with
  | nil => intro e he; simp [mpPut] at he; subst he; exact hx
  | cons a r ih =>
    intro e he
    have hr := ih fun e he => h e (List.mem_cons_of_mem _ he)
    unfold mpPut at he
    split at he
    · rcases List.mem_cons.1 he with he | he
      · subst he; exact hx
      · exact h e (List.mem_cons_of_mem _ he)
    · rcases List.mem_cons.1 he with he | he
      · subst he; exact h _ (List.mem_cons_self ..)
      · exact hr e he
theorem del_ok {es : List (ByteArray × Value)} {s : ByteArray} (h : ∀ e ∈ es, e.2.oneCell' = true) : ∀ e ∈ mpDel es s, e.2.oneCell' = true := by
  induction es with
  | nil => intro e he; simp [mpDel] at he
  | cons a r ih =>
    intro e he
    have hr := ih fun e he => h e (List.mem_cons_of_mem _ he)
    unfold mpDel at he
    split at he
    · exact h e (List.mem_cons_of_mem _ he)
    · rcases List.mem_cons.1 he with he | he
      · subst he; exact h _ (List.mem_cons_self ..)
      · exact hr e he
theorem mapOp_sound {o : Oper} {ρ : Operand → Value} {ev : Operand → AV} {p : Prop} {r : AV} (hr : HR w ok μ hp) (hev : ∀ x, AVRel w ok μ (ev x) (ρ x))
    (h : mapOp P hp ev o.op = some (p, r, hp')) (hp0 : p) : HOut P o ρ w ok μ hp hp' r := by
  have hk : ∀ s : ByteArray, MapKept.IsKey .string (.string s) := fun _ => trivial
  unfold mapOp at h
  split at h
  · rename_i t ho
    split at h
    · rename_i e he
      cases h
      refine ⟨.value (.map (some w.heap.size)), w.alloc (.map #[] 0), μ ++ [.box w.heap.size], ?_, ?_, .inl ⟨_, rfl, .one (.mp ?_)⟩⟩
      · simp [execOp, ho, Instr.makeMap, Result.andThen]
      · exact step_new hr rfl rfl rfl (by simp) (fun b hb => Below.heap_alloc w _ b hb) ⟨#[], 0, (MapKept.heap_alloc w _).1, rfl, fun _ h => by cases h⟩ (fun b hb => by cases hb; exact Nat.le_refl _)
      · rw [← hr.len]; simp
    · cases h
  · rename_i t m k v ho
    split at h
    · rename_i z i s x he hx hkk hvv
      split at h
      · rename_i u es hi
        cases h
        obtain ⟨kt, e, ti, hu, hks, hti, hz, hzo⟩ := mapTy_spec he
        have hkr := hev k
        rw [hkk] at hkr
        have hkv := lit_rel hkr
        have hvr := hev v
        rw [hvv] at hvr
        have hvv' := lit_rel hvr
        have hxo : x.oneCell' = true := by cases hvr with | one hc => cases hc with | v hc => cases hc; assumption
        obtain ⟨b, ms, clock, hxv, hμ, g1, g2, g3⟩ := mp_at hr (hev m) hx hi
        rcases find_spec (s := s) 0 g2 with ⟨f1, f2, f3, _⟩ | ⟨q, e', f1, f2, f4, f5, f6, _⟩
        · refine ⟨.skip, _, μ, ?_, mp_write (ms' := ms.push { key := .string s, val := x, born := clock }) (clock' := clock + 1) (es' := mpPut es s x) hr hi hμ g1 ?_ (put_ok g3 hxo), .inr ⟨rfl, rfl⟩⟩
          · simp [execOp, ho, Instr.mapUpdate, hxv, hkv, hvv', run_underlying hu, MapKept.run_getObj_map g1, MapKept.run_checkKey hks (hk s), MapKept.run_findKey hks f2, MapKept.run_setObj_map _ g1, Result.andThen]
          · rw [f3]; simp [g2]
        · have hj : ms[q]? = some e' := by simpa using f4
          refine ⟨.skip, _, μ, ?_, mp_write (ms' := ms.modify q fun e => { e with key := .string s, val := x }) (clock' := clock) (es' := mpPut es s x) hr hi hμ g1 ?_ (put_ok g3 hxo), .inr ⟨rfl, rfl⟩⟩
          · simp [execOp, ho, Instr.mapUpdate, hxv, hkv, hvv', run_underlying hu, MapKept.run_getObj_map g1, MapKept.run_checkKey hks (hk s), MapKept.run_findKey hks f2, hj, f5, MapKept.run_keyThatStays (hk s), MapKept.run_setObj_map _ g1, Result.andThen]
          · rw [f6, List.map_set, ← g2]
            refine List.ext_getElem? fun n => ?_
            rw [List.getElem?_map, List.getElem?_set, List.getElem?_map, Array.getElem?_toList, Array.getElem?_modify]
            have hlt := lt_of_getElem? f4
            by_cases hn : q = n
            · subst hn; simp [hj]; exact hlt
            · simp [hn]
      · cases h
    · cases h
  · rename_i args ts ho
    split at h
    · rename_i m k t t2 hargs hts
      obtain rfl : args = #[m, k] := by apply Array.ext'; simpa using hargs
      obtain rfl : ts = #[t, t2] := by apply Array.ext'; simpa using hts
      split at h
      · rename_i z i s he hx hkk
        split at h
        · rename_i u es hi
          cases h
          obtain ⟨kt, e, ti, hu, hks, hti, hz, hzo⟩ := mapTy_spec he
          have hkr := hev k
          rw [hkk] at hkr
          have hkv := lit_rel hkr
          obtain ⟨b, ms, clock, hxv, hμ, g1, g2, g3⟩ := mp_at hr (hev m) hx hi
          rcases find_spec (s := s) 0 g2 with ⟨f1, f2, _, f3⟩ | ⟨q, e', f1, f2, f4, f5, _, f6⟩
          · refine ⟨.value (.tuple #[]), _, μ, ?_, mp_write (ms' := ms) (clock' := clock) (es' := mpDel es s) hr hi hμ g1 ?_ (del_ok g3), .inl ⟨_, rfl, .any⟩⟩
            · simp [execOp, ho, resolve, invoke, builtin, Builtin.delete_, hxv, hkv, run_underlying hu, MapKept.run_getObj_map g1, MapKept.run_checkKey hks (hk s), MapKept.run_findKey hks f2, MapKept.run_setObj_map _ g1, Result.andThen]
            · rw [f3]; exact g2
          · refine ⟨.value (.tuple #[]), _, μ, ?_, mp_write (ms' := ms.eraseIdxIfInBounds q) (clock' := clock) (es' := mpDel es s) hr hi hμ g1 ?_ (del_ok g3), .inl ⟨_, rfl, .any⟩⟩
            · simp [execOp, ho, resolve, invoke, builtin, Builtin.delete_, hxv, hkv, run_underlying hu, MapKept.run_getObj_map g1, MapKept.run_checkKey hks (hk s), MapKept.run_findKey hks f2, MapKept.run_setObj_map _ g1, Result.andThen]
            · have hlt := lt_of_getElem? f4
              have : (ms.eraseIdxIfInBounds q).toList = ms.toList.eraseIdx q := by
                unfold Array.eraseIdxIfInBounds
                rw [dif_pos (by simpa using hlt)]
                simp
              rw [f6, this, map_erase, map_erase, g2]
        · cases h
      · cases h
    · cases h
  · cases h
theorem exOp_sound {o : Oper} {ρ : Operand → Value} {ev : Operand → AV} {p : Prop} {r : AV} (hr : HR w ok μ hp) (hev : ∀ x, AVRel w ok μ (ev x) (ρ x))
    (h : exOp P hp ev o.op = some (p, r, hp')) (hp0 : p) : HOut P o ρ w ok μ hp hp' r := by
  unfold exOp at h
  split at h
  · rename_i q hq
    cases h
    exact mapOp_sound hr hev hq hp0
  · exact arjOpG_sound hr hev h hp0
end
end Go.Proofs.AE
