/- Texts joined. -/
import Derived.WalkKit
import Derived.Below
import Derived.Laws.AppendOwn
import Derived.Laws.OwnMore
import Derived.Laws.CopyRow
import Derived.Laws.Rows
import Derived.Laws.StructEq
import Derived.Laws.Build
import Derived.Laws.IdiomElems
import Derived.Laws.Small
import Derived.Laws.Strings
import Derived.Laws.Strings2
import Derived.Laws.Slices
import Derived.Laws.BytesArg
import Derived.Laws.Tables
import Derived.MapKept
set_option linter.unusedVariables false
set_option linter.unusedSimpArgs false
namespace Go.Proofs.AE
open Go Go.RowKit
inductive All2 {α β : Type} (R : α → β → Prop) : List α → List β → Prop where
  | nil : All2 R [] []
  | cons {a : α} {b : β} {l : List α} {m : List β} (h : R a b) (t : All2 R l m) : All2 R (a :: l) (b :: m)
namespace All2
variable {α β : Type} {R S : α → β → Prop}
theorem mono (hs : ∀ a b, R a b → S a b) {l : List α} {m : List β} (h : All2 R l m) : All2 S l m := by
  induction h with
  | nil => exact .nil
  | cons h _ ih => exact .cons (hs _ _ h) ih
theorem length {l : List α} {m : List β} (h : All2 R l m) : l.length = m.length := by
  induction h with
  | nil => rfl
  | cons _ _ ih => simp [ih]
theorem get {l : List α} {m : List β} (h : All2 R l m) : ∀ {i : Nat} {a : α}, l[i]? = some a → ∃ b, m[i]? = some b ∧ R a b := by
  induction h with
  | nil => intro i a hi; simp at hi
  | cons h _ ih =>
    intro i a hi
    cases i with
    | zero => simp at hi; subst hi; exact ⟨_, rfl, h⟩
    | succ i => simpa using ih (by simpa using hi)
theorem of_get {l : List α} {m : List β} (hl : l.length = m.length) (h : ∀ (i : Nat) a b, l[i]? = some a → m[i]? = some b → R a b) : All2 R l m := by
  induction l generalizing m with
  | nil => cases m with | nil => exact .nil | cons => simp at hl
  | cons a l ih =>
    cases m with
    | nil => simp at hl
    | cons b m => exact .cons (h 0 a b rfl rfl) (ih (by simpa using hl) fun i x y hx hy => h (i + 1) x y (by simpa using hx) (by simpa using hy))
theorem append {l l' : List α} {m m' : List β} (h : All2 R l m) (h' : All2 R l' m') : All2 R (l ++ l') (m ++ m') := by
  induction h with
  | nil => exact h'
  | cons h _ ih => exact .cons h ih
theorem drop {l : List α} {m : List β} (h : All2 R l m) (n : Nat) : All2 R (l.drop n) (m.drop n) := by
  induction h generalizing n with
  | nil => simp; exact .nil
  | cons h t ih => cases n with | zero => exact .cons h t | succ n => simpa using ih n
theorem take {l : List α} {m : List β} (h : All2 R l m) (n : Nat) : All2 R (l.take n) (m.take n) := by
  induction h generalizing n with
  | nil => simp; exact .nil
  | cons h t ih => cases n with | zero => exact .nil | succ n => simpa using .cons h (ih n)
theorem set {l : List α} {m : List β} (h : All2 R l m) {a : α} {b : β} (hab : R a b) (i : Nat) : All2 R (l.set i a) (m.set i b) := by
  induction h generalizing i with
  | nil => simp; exact .nil
  | cons h t ih => cases i with | zero => exact .cons hab t | succ i => exact .cons h (ih i)
theorem mem {l : List α} {m : List β} (h : All2 R l m) {b : β} (hb : b ∈ m) : ∃ a, a ∈ l ∧ R a b := by
  induction h with
  | nil => simp at hb
  | cons h t ih =>
    rcases List.mem_cons.1 hb with rfl | hb
    · exact ⟨_, List.mem_cons_self .., h⟩
    · obtain ⟨a, ha, r⟩ := ih hb; exact ⟨a, List.mem_cons_of_mem _ ha, r⟩
theorem map_left {γ : Type} {f : γ → α} {l : List γ} {m : List β} (h : All2 (fun c b => R (f c) b) l m) : All2 R (l.map f) m := by
  induction h with
  | nil => exact .nil
  | cons h _ ih => exact .cons h ih
end All2
inductive V where
  | lit (x : Value)
  | sl (rows : List (List V))
inductive C where
  | v (d : V)
  | ptr (i : Nat) (off : Nat)
  | eptr (i row k off : Nat)
  | ar (i : Nat)
  | sub (i k off len c : Nat)
  | mp (i : Nat)
  | vptr (cs : List V)
  | full (rows : List (List V))
  | nil
  | any
inductive AV where
  | one (c : C)
  | agg (cs : List C)
  | tup (l : List AV)
  | fn (f : Nat) (first caps : List C)
  | any
inductive Blk where
  | box (t : TypeId) (cs : List C)
  | arr (e : TypeId) (k : Nat) (rows : List (List V))
  | arj (e : TypeId) (k c : Nat) (rows : List (List V))
  | mp (t : TypeId) (es : List (ByteArray × Value))
inductive MB where
  | box (b : Nat)
  | arr (x : Value)
def MB.own : MB → Option Nat
  | .box b => some b
  | .arr x => x.ownBlock
inductive VRel (w : World) (ok : Nat → Prop) : V → Value → Prop where
  | lit (x : Value) (h : x.oneCell' = true) : VRel w ok (.lit x) x
  | nil : VRel w ok (.sl []) (.slice none 0 0)
  | emp (a : Addr) (cap : Nat) (hmax : cap ≤ maxLen) : VRel w ok (.sl []) (.slice (some a) 0 cap)
  | sl (rows : List (List V)) (b off cap : Nat) (cv : Nat → Nat → Value) (hok : rows ≠ [] → ok b) (hcap : rows.length ≤ cap) (hmax : cap ≤ maxLen)
      (hc : ∀ (i : Nat) row (j : Nat) v, rows[i]? = some row → row[j]? = some v → w.cell? ⟨b, off + (i * row.length + j), none⟩ = some (cv i j))
      (hv : ∀ (i : Nat) row (j : Nat) v, rows[i]? = some row → row[j]? = some v → VRel w ok v (cv i j)) :
      VRel w ok (.sl rows) (.slice (some ⟨b, off, none⟩) rows.length cap)
theorem VRel.oneCell {w : World} {ok : Nat → Prop} {v : V} {x : Value} (h : VRel w ok v x) : x.oneCell' = true := by
  cases h <;> first | assumption | rfl
theorem VRel.mono {w w' : World} {ok ok' : Nat → Prop} (hw : ∀ b, ok b → w'.heap[b]? = w.heap[b]?) (ho : ∀ b, ok b → ok' b) {v : V} {x : Value} (h : VRel w ok v x) : VRel w' ok' v x := by
  induction h with
  | lit x h => exact .lit x h
  | nil => exact .nil
  | emp a cap h => exact .emp a cap h
  | sl rows b off cap cv hok hcap hmax hc hv ih =>
    refine .sl rows b off cap cv (fun hn => ho b (hok hn)) hcap hmax ?_ ih
    intro i row j v hi hj
    have hne : rows ≠ [] := by rintro rfl; simp at hi
    have h1 := hc i row j v hi hj
    unfold World.cell? at *
    rw [hw b (hok hne)]; exact h1
inductive SubOf (k off len c : Nat) : Value → Value → Prop where
  | nil {n : Nat} (h : len = 0) (hc : c = 0) : SubOf k off len c (.slice none n c) (.slice none 0 0)
  | at {g n o : Nat} (h : (off < c ∨ off = 0) → o = off * k) : SubOf k off len c (.slice (some ⟨g, 0, none⟩) n c) (.slice (some ⟨g, o, none⟩) len (c - off))
theorem SubOf.oneCell {k off len c : Nat} {x y : Value} (h : SubOf k off len c x y) : y.oneCell' = true := by cases h <;> rfl
inductive CRel (w : World) (ok : Nat → Prop) (μ : List MB) : C → Value → Prop where
  | v {d : V} {x : Value} (h : VRel w ok d x) : CRel w ok μ (.v d) x
  | ptr {i b : Nat} (off : Nat) (h : μ[i]? = some (.box b)) : CRel w ok μ (.ptr i off) (.pointer (some ⟨b, off, none⟩))
  | eptr {i b n cap : Nat} (row k off : Nat) (h : μ[i]? = some (.arr (.slice (some ⟨b, 0, none⟩) n cap))) : CRel w ok μ (.eptr i row k off) (.pointer (some ⟨b, row * k + off, none⟩))
  | ar {i : Nat} {x : Value} (h : μ[i]? = some (.arr x)) (h1 : x.oneCell' = true) : CRel w ok μ (.ar i) x
  | sub {i : Nat} {x y : Value} (k off len c : Nat) (h : μ[i]? = some (.arr x)) (hs : SubOf k off len c x y) : CRel w ok μ (.sub i k off len c) y
  | mp {i b : Nat} (h : μ[i]? = some (.box b)) : CRel w ok μ (.mp i) (.map (some b))
  | vptr {cs : List V} (b off : Nat) (cv : Nat → Value) (hok : ok b) (hc : ∀ (j : Nat) v, cs[j]? = some v → w.cell? ⟨b, off + j, none⟩ = some (cv j))
      (hv : ∀ (j : Nat) v, cs[j]? = some v → VRel w ok v (cv j)) : CRel w ok μ (.vptr cs) (.pointer (some ⟨b, off, none⟩))
  | full {rows : List (List V)} {a : Option Addr} (h : VRel w ok (.sl rows) (.slice a rows.length rows.length)) : CRel w ok μ (.full rows) (.slice a rows.length rows.length)
  | nil : CRel w ok μ .nil (.slice none 0 0)
  | any {x : Value} (h : x.oneCell' = true) : CRel w ok μ .any x
theorem CRel.oneCell {w : World} {ok : Nat → Prop} {μ : List MB} {c : C} {x : Value} (h : CRel w ok μ c x) : x.oneCell' = true := by
  cases h <;> first | assumption | rfl | (exact VRel.oneCell ‹_›) | (exact SubOf.oneCell ‹_›)
theorem CRel.mono {w w' : World} {ok ok' : Nat → Prop} {μ : List MB} (hw : ∀ b, ok b → w'.heap[b]? = w.heap[b]?) (ho : ∀ b, ok b → ok' b) {c : C} {x : Value} (h : CRel w ok μ c x) : CRel w' ok' μ c x := by
  cases h with
  | v h => exact .v (h.mono hw ho)
  | ptr off h => exact .ptr off h
  | eptr r k off h => exact .eptr r k off h
  | ar h h1 => exact .ar h h1
  | sub k off len c h hs => exact .sub k off len c h hs
  | mp h => exact .mp h
  | vptr b off cv hok hc hv =>
    refine .vptr b off cv (ho b hok) ?_ fun j v hj => (hv j v hj).mono hw ho
    intro j v hj
    have h1 := hc j v hj
    unfold World.cell? at *
    rw [hw b hok]; exact h1
  | full h => exact .full (h.mono hw ho)
  | nil => exact .nil
  | any h => exact .any h
theorem CRel.ext {w : World} {ok : Nat → Prop} {μ μ' : List MB} {c : C} {x : Value} (h : CRel w ok μ c x) (hm : ∀ (i : Nat) m, μ[i]? = some m → μ'[i]? = some m) : CRel w ok μ' c x := by
  cases h with
  | v h => exact .v h
  | ptr off h => exact .ptr off (hm _ _ h)
  | eptr r k off h => exact .eptr r k off (hm _ _ h)
  | ar h h1 => exact .ar (hm _ _ h) h1
  | sub k off len c h hs => exact .sub k off len c (hm _ _ h) hs
  | mp h => exact .mp (hm _ _ h)
  | vptr b off cv hok hc hv => exact .vptr b off cv hok hc hv
  | full h => exact .full h
  | nil => exact .nil
  | any h => exact .any h
mutual
inductive AVRel (w : World) (ok : Nat → Prop) (μ : List MB) : AV → Value → Prop where
  | one {c : C} {x : Value} (h : CRel w ok μ c x) : AVRel w ok μ (.one c) x
  | agg {cs : List C} {xs : Array Value} (h : All2 (CRel w ok μ) cs xs.toList) : AVRel w ok μ (.agg cs) (.agg xs)
  | tup {l : List AV} {xs : Array Value} (h : AVRels w ok μ l xs.toList) : AVRel w ok μ (.tup l) (.tuple xs)
  | fn {f : Nat} {first caps : List C} {fs xs : Array Value} (h : All2 (CRel w ok μ) first fs.toList) (h' : All2 (CRel w ok μ) caps xs.toList) : AVRel w ok μ (.fn f first caps) (.func (.func f) fs xs)
  | any {x : Value} : AVRel w ok μ .any x
inductive AVRels (w : World) (ok : Nat → Prop) (μ : List MB) : List AV → List Value → Prop where
  | nil : AVRels w ok μ [] []
  | cons {v : AV} {x : Value} {l : List AV} {xs : List Value} (h : AVRel w ok μ v x) (t : AVRels w ok μ l xs) : AVRels w ok μ (v :: l) (x :: xs)
end
mutual
theorem AVRel.mono {w w' : World} {ok ok' : Nat → Prop} {μ : List MB} (hw : ∀ b, ok b → w'.heap[b]? = w.heap[b]?) (ho : ∀ b, ok b → ok' b) : ∀ {v : AV} {x : Value}, AVRel w ok μ v x → AVRel w' ok' μ v x
  | _, _, .one h => .one (h.mono hw ho)
  | _, _, .agg h => .agg (h.mono fun _ _ h => h.mono hw ho)
  | _, _, .tup h => .tup (AVRels.mono hw ho h)
  | _, _, .fn h h' => .fn (h.mono fun _ _ h => h.mono hw ho) (h'.mono fun _ _ h => h.mono hw ho)
  | _, _, .any => .any
theorem AVRels.mono {w w' : World} {ok ok' : Nat → Prop} {μ : List MB} (hw : ∀ b, ok b → w'.heap[b]? = w.heap[b]?) (ho : ∀ b, ok b → ok' b) : ∀ {l : List AV} {xs : List Value}, AVRels w ok μ l xs → AVRels w' ok' μ l xs
  | _, _, .nil => .nil
  | _, _, .cons h t => .cons (AVRel.mono hw ho h) (AVRels.mono hw ho t)
end
mutual
theorem AVRel.ext {w : World} {ok : Nat → Prop} {μ μ' : List MB} (hm : ∀ (i : Nat) m, μ[i]? = some m → μ'[i]? = some m) : ∀ {v : AV} {x : Value}, AVRel w ok μ v x → AVRel w ok μ' v x
  | _, _, .one h => .one (h.ext hm)
  | _, _, .agg h => .agg (h.mono fun _ _ h => h.ext hm)
  | _, _, .tup h => .tup (AVRels.ext hm h)
  | _, _, .fn h h' => .fn (h.mono fun _ _ h => h.ext hm) (h'.mono fun _ _ h => h.ext hm)
  | _, _, .any => .any
theorem AVRels.ext {w : World} {ok : Nat → Prop} {μ μ' : List MB} (hm : ∀ (i : Nat) m, μ[i]? = some m → μ'[i]? = some m) : ∀ {l : List AV} {xs : List Value}, AVRels w ok μ l xs → AVRels w ok μ' l xs
  | _, _, .nil => .nil
  | _, _, .cons h t => .cons (AVRel.ext hm h) (AVRels.ext hm t)
end
def BRel (w : World) (ok : Nat → Prop) (μ : List MB) : Blk → MB → Prop
  | .box t cs, .box b => ∃ xs : Array Value, w.heap[b]? = some (.cells xs t (0, 0)) ∧ All2 (CRel w ok μ) cs xs.toList
  | .arr e k rows, .arr x => ∃ xs, w.ownsRow 0 e k x rows.length xs ∧ All2 (VRel w ok) rows.flatten xs ∧ ∀ row ∈ rows, row.length = k
  | .arj e k c rows, .arr x => 0 < k ∧ (∀ row ∈ rows, row.length = k) ∧ ((x = .slice none 0 0 ∧ c = 0 ∧ rows = []) ∨ ∃ g n cur, x = .slice (some ⟨g, 0, none⟩) n c ∧ w.heap[g]? = some (.cells cur e (0, 0)) ∧ rows.length ≤ c ∧ c ≤ maxLen ∧ cur.size = c * k ∧ All2 (VRel w ok) rows.flatten (cur.toList.take (rows.length * k)))
  | .mp _ es, .box b => ∃ ms clock, w.heap[b]? = some (.map ms clock) ∧ ms.toList.map (fun e => (e.key, e.val)) = es.map (fun e => (.string e.1, e.2)) ∧ ∀ e ∈ es, e.2.oneCell' = true
  | _, _ => False
abbrev Hp := List (Option Blk)
structure HR (w : World) (ok : Nat → Prop) (μ : List MB) (hp : Hp) : Prop where
  len : μ.length = hp.length
  rel : ∀ (i : Nat) b, hp[i]? = some (some b) → ∃ m, μ[i]? = some m ∧ BRel w ok μ b m
  inj : ∀ (i j : Nat) b c m n k, i ≠ j → hp[i]? = some (some b) → hp[j]? = some (some c) → μ[i]? = some m → μ[j]? = some n → m.own = some k → n.own ≠ some k
  okn : ∀ k, ok k → k < w.heap.size ∧ ∀ (i : Nat) b m, hp[i]? = some (some b) → μ[i]? = some m → m.own ≠ some k
end Go.Proofs.AE
set_option linter.unusedVariables false
set_option linter.unusedSimpArgs false
namespace Go.Proofs.AE
open Go Go.RowKit
inductive Sh where
  | bool | int (k : IntKind) | string | slice (e : Nat) | struct (fs : List (Nat × Nat)) | array (n e : Nat) | pointer (e : Nat) | iface | other
structure TI where
  sh : Sh
  size : Nat
  bytes : Nat
  zero : List V
  flat : List Sh
def TI.isAgg (i : TI) : Bool := match i.sh with | .struct _ | .array _ _ => true | _ => false
def shOf (P : Program) : TypeDesc → Option Sh
  | .bool => some .bool
  | .int k => some (.int k)
  | .string => some .string
  | .slice e => some (.slice e)
  | .struct fs => if fs.toList.all (fun f => match P.info? f.type with | some i => i.size != 0 | none => false) then some (.struct (fs.toList.map fun f => (f.type, f.offset))) else none
  | .array n e => some (.array n e)
  | .pointer e => some (.pointer e)
  | .interface _ => some .iface
  | _ => some .other
def zV : Value → Option V
  | .slice none 0 0 => some (.sl [])
  | .int k n => some (.lit (.int k n))
  | .bool b => some (.lit (.bool b))
  | .string s => some (.lit (.string s))
  | .pointer none => some (.lit (.pointer none))
  | .nilIface => some (.lit .nilIface)
  | .nilFunc => some (.lit .nilFunc)
  | _ => none
def zVs : List Value → Option (List V)
  | [] => some []
  | x :: r => match zV x, zVs r with | some a, some b => some (a :: b) | _, _ => none
def flatFs (rec : TypeId → Option (List Sh)) (sz : TypeId → Option Nat) : List Field → List Sh → Option (List Sh)
  | [], acc => some acc
  | f :: fs, acc =>
    if f.name ≠ "_" ∧ f.offset = acc.length then
      match rec f.type with
      | some l => if sz f.type = some l.length then flatFs rec sz fs (acc ++ l) else none
      | none => none
    else none
def flatB (P : Program) : (d : Nat) → TypeId → Option (List Sh)
  | 0, _ => none
  | d + 1, t => match P.underlying t with
    | some .bool => some [.bool]
    | some (.int k) => some [.int k]
    | some .string => some [.string]
    | some (.struct fs) => if P.stoodInHeld t then none else flatFs (flatB P d) (fun u => (P.info? u).map (·.size)) fs.toList []
    | _ => none
def flatOf (P : Program) (t : TypeId) : List Sh := if P.eqGuardType P.depth t then [] else match P.underlying t with | some (.struct _) => (flatB P 12 t).getD [] | _ => []
def tiOf (P : Program) (t : TypeId) : Option TI :=
  match P.underlying t, P.info? t with
  | some d, some i => match i.zero with
    | some z => match zVs z.cells.toList with
      | some zs => match shOf P d with
        | some sh => if zs.length = i.size then some ⟨sh, i.size, i.bytes, zs, flatOf P t⟩ else none
        | none => none
      | none => none
    | none => none
  | _, _ => none
structure TIs (P : Program) (t : TypeId) (i : TI) : Prop where
  und : ∃ d, P.underlying t = some d ∧ shOf P d = some i.sh
  info : ∃ j, P.info? t = some j ∧ j.size = i.size ∧ j.bytes = i.bytes ∧ ∃ z, j.zero = some z ∧ zVs z.cells.toList = some i.zero ∧ i.zero.length = i.size
  flat : i.flat = flatOf P t
theorem tiOf_spec {P : Program} {t : TypeId} {i : TI} (h : tiOf P t = some i) : TIs P t i := by
  unfold tiOf at h
  split at h
  · rename_i d j hd hj
    split at h
    · rename_i z hz
      split at h
      · rename_i zs hzs
        split at h
        · rename_i sh hsh
          split at h
          · rename_i hl
            cases h
            exact ⟨⟨d, hd, hsh⟩, ⟨j, hj, rfl, rfl, z, hz, hzs, hl⟩, rfl⟩
          · cases h
        · cases h
      · cases h
    · cases h
  · cases h
def mapTy (P : Program) (t : TypeId) : Option Value :=
  match P.underlying t with
  | some (.map k e) => match P.underlying k, P.info? e with
    | some .string, some i => match i.zero with
      | some z => if z.oneCell' = true then some z else none
      | none => none
    | _, _ => none
  | _ => none
theorem mapTy_spec {P : Program} {t : TypeId} {z : Value} (h : mapTy P t = some z) : ∃ k e i, P.underlying t = some (.map k e) ∧ P.underlying k = some .string ∧ P.info? e = some i ∧ i.zero = some z ∧ z.oneCell' = true := by
  unfold mapTy at h
  split at h
  · rename_i k e hu
    split at h
    · rename_i i hk hi
      split at h
      · rename_i z' hz
        split at h
        · rename_i ho; cases h; exact ⟨k, e, i, hu, hk, hi, hz, ho⟩
        · cases h
      · cases h
    · cases h
  · cases h
def mpFind : List (ByteArray × Value) → ByteArray → Option Value
  | [], _ => none
  | (a, v) :: r, k => if k = a then some v else mpFind r k
def mpPut : List (ByteArray × Value) → ByteArray → Value → List (ByteArray × Value)
  | [], k, v => [(k, v)]
  | (a, u) :: r, k, v => if k = a then (k, v) :: r else (a, u) :: mpPut r k v
def mpDel : List (ByteArray × Value) → ByteArray → List (ByteArray × Value)
  | [], _ => []
  | (a, u) :: r, k => if k = a then r else (a, u) :: mpDel r k
def mpLook (P : Program) (hp : Hp) (t : TypeId) (x k : AV) (ok : Bool) : Option (Prop × AV) :=
  match mapTy P t, x, k with
  | some z, .one (.mp i), .one (.v (.lit (.string s))) => match hp[i]? with
    | some (some (.mp _ es)) => some (True, if ok = true then .tup [.one (.v (.lit ((mpFind es s).getD z))), .one (.v (.lit (.bool (mpFind es s).isSome)))] else .one (.v (.lit ((mpFind es s).getD z))))
    | _ => none
  | _, _, _ => none
def mpLen (P : Program) (hp : Hp) (t : TypeId) (v : AV) : Option (Prop × AV) :=
  match mapTy P t, v with
  | some _, .one (.mp i) => match hp[i]? with
    | some (some (.mp _ es)) => some (True, .one (.v (.lit (.int .i64 (es.length : Int)))))
    | _ => none
  | _, _ => none
def vC : V → C
  | .sl [] => .nil
  | d => .v d
def cV : Value → C
  | .slice none 0 0 => .nil
  | .int k n => .v (.lit (.int k n))
  | .bool b => .v (.lit (.bool b))
  | .string s => .v (.lit (.string s))
  | .pointer none => .v (.lit (.pointer none))
  | .nilIface => .v (.lit .nilIface)
  | .nilFunc => .v (.lit .nilFunc)
  | _ => .any
def niceB : Value → Bool
  | .agg _ | .tuple _ => false
  | _ => true
def cAV : Value → AV
  | .agg xs => if xs.toList.all niceB then .agg (xs.toList.map cV) else .any
  | .slice none 0 0 => .one .nil
  | .int k n => .one (.v (.lit (.int k n)))
  | .bool b => .one (.v (.lit (.bool b)))
  | .string s => .one (.v (.lit (.string s)))
  | .pointer none => .one (.v (.lit (.pointer none)))
  | .nilIface => .one (.v (.lit .nilIface))
  | .nilFunc => .one (.v (.lit .nilFunc))
  | .func (.func f) first caps => if first.size = 0 ∧ caps.size = 0 then .fn f [] [] else .any
  | _ => .any
structure S where
  fr : List (Nat × AV)
  gl : Nat → AV
  hp : Hp
def getF : List (Nat × AV) → Nat → AV
  | [], _ => .any
  | (u, v) :: r, t => if u = t then v else getF r t
def S.eval (s : S) : Operand → AV
  | .tmp t => getF s.fr t
  | .const v => cAV v
  | .global g => s.gl g
  | .func f => .fn f [] []
def S.put (s : S) (d : Option Nat) (v : AV) : S :=
  match d with
  | none => s
  | some t => { s with fr := (t, v) :: s.fr }
structure St (n : Nat) (w : World) (ok : Nat → Prop) (μ : List MB) (s : S) (a : Act) : Prop where
  hr : HR w ok μ s.hp
  size : a.tmps.size = n
  defers : a.defers = []
  fr : ∀ t, AVRel w ok μ (getF s.fr t) (a.tmps.getD t undef)
  gl : ∀ g ν, AVRel w ok ν (s.gl g) (.pointer (some ⟨g, 0, none⟩))
def byteAt (s : ByteArray) (n : Nat) : Int := ((s.data.toList.getD n 0).toNat : Int)
def bitsV (op : BinOp) (k : IntKind) (x y : Int) : Int :=
  let a := BitVec.ofInt k.bits x
  let b := BitVec.ofInt k.bits y
  match op with
  | .and => k.wrap (a &&& b).toNat
  | .or => k.wrap (a ||| b).toNat
  | .xor => k.wrap (a ^^^ b).toNat
  | _ => k.wrap (a &&& ~~~b).toNat
def binI (op : BinOp) (k : IntKind) (a b : Int) : Prop × Value :=
  match op with
  | .add => (True, .int k (k.wrap (a + b)))
  | .sub => (True, .int k (k.wrap (a - b)))
  | .mul => (True, .int k (k.wrap (a * b)))
  | .quo => (b ≠ 0, .int k (k.wrap (a.tdiv b)))
  | .rem => (b ≠ 0, .int k (a.tmod b))
  | .eql => (True, .bool (a == b))
  | .neq => (True, .bool (a != b))
  | .lss => (True, .bool (decide (a < b)))
  | .leq => (True, .bool (decide (a ≤ b)))
  | .gtr => (True, .bool (decide (a > b)))
  | .geq => (True, .bool (decide (a ≥ b)))
  | .shl => (0 ≤ b, .int k (k.wrap (a * 2 ^ (min b.toNat k.bits))))
  | .shr => (0 ≤ b, .int k (a.fdiv (2 ^ (min b.toNat k.bits))))
  | op => (True, .int k (bitsV op k a b))
def binS (op : BinOp) (a b : ByteArray) : Option (Prop × Value) :=
  match op with
  | .add => some (a.size + b.size ≤ 9223372036854775807, .string (a ++ b))
  | .eql => some (True, .bool (a == b))
  | .neq => some (True, .bool (!(a == b)))
  | .lss => some (True, .bool (Op.bytesLess a.data.toList b.data.toList))
  | .leq => some (True, .bool (Op.bytesLess a.data.toList b.data.toList || (a == b)))
  | .gtr => some (True, .bool (!(Op.bytesLess a.data.toList b.data.toList || (a == b))))
  | .geq => some (True, .bool (!(Op.bytesLess a.data.toList b.data.toList)))
  | _ => none
def isShift : BinOp → Bool | .shl | .shr => true | _ => false
def binV (sh : Option Sh) (op : BinOp) : Value → Value → Option (Prop × Value)
  | .int k a, .int k' b => if isShift op || k == k' then some (binI op k a b) else none
  | .string a, .string b => binS op a b
  | .bool a, .bool b => match sh, op with
    | some .bool, .eql => some (True, .bool (a == b))
    | some .bool, .neq => some (True, .bool (!(a == b)))
    | _, _ => none
  | .nilIface, .nilIface => none
  | .iface _ _, .nilIface => match sh, op with
    | some .iface, .eql => some (True, .bool false)
    | some .iface, .neq => some (True, .bool true)
    | _, _ => none
  | _, _ => none
def eqCells : List Sh → List C → List C → Option Bool
  | [], [], [] => some true
  | .int _ :: l, .v (.lit (.int k a)) :: r, .v (.lit (.int k' b)) :: r' => if k = k' then (eqCells l r r').map ((a == b) && ·) else none
  | .bool :: l, .v (.lit (.bool a)) :: r, .v (.lit (.bool b)) :: r' => (eqCells l r r').map ((a == b) && ·)
  | .string :: l, .v (.lit (.string a)) :: r, .v (.lit (.string b)) :: r' => (eqCells l r r').map ((a == b) && ·)
  | _, _, _ => none
def binAV (i : Option TI) (op : BinOp) : AV → AV → Option (Prop × AV)
  | .one (.v (.lit a)), .one (.v (.lit b)) => (binV (i.map TI.sh) op a b).map fun (p, v) => (p, .one (.v (.lit v)))
  | .agg xs, .agg ys => match i with
    | some i => if i.flat.isEmpty then none else
        match op, eqCells i.flat xs ys with
        | .eql, some b => some (True, .one (.v (.lit (.bool b))))
        | .neq, some b => some (True, .one (.v (.lit (.bool (!b)))))
        | _, _ => none
    | none => none
  | _, _ => none
def unAV (op : UnOp) : AV → Option AV
  | .one (.v (.lit (.int k n))) => match op with | .neg => some (.one (.v (.lit (.int k (k.wrap (0 - n)))))) | _ => none
  | .one (.v (.lit (.bool b))) => match op with | .not => some (.one (.v (.lit (.bool !b)))) | _ => none
  | _ => none
def byteOf : List V → Option UInt8
  | [.lit (.int .u8 n)] => some (UInt8.ofNat n.toNat)
  | _ => none
def bytesOf : List (List V) → Option (List UInt8)
  | [] => some []
  | r :: rs => match byteOf r, bytesOf rs with | some b, some l => some (b :: l) | _, _ => none
def rowsOf (hp : Hp) : AV → Option (List (List V))
  | .one (.v (.sl rows)) => some rows
  | .one (.full rows) => some rows
  | .one .nil => some []
  | .one (.ar i) => match hp[i]? with | some (some (.arr _ _ rows)) => some rows | _ => none
  | _ => none
def lenAV (hp : Hp) (v : AV) : Option Int :=
  match v with
  | .one (.v (.lit (.string s))) => some s.size
  | _ => (rowsOf hp v).map fun r => (r.length : Int)
def convAV (P : Program) (src dst : Option TI) (hp : Hp) (v : AV) : Option AV :=
  match src.map TI.sh, dst.map TI.sh, v with
  | some _, some (.int k), .one (.v (.lit (.int _ n))) => some (.one (.v (.lit (.int k (k.wrap n)))))
  | some .string, some .string, .one (.v (.lit (.string s))) => some (.one (.v (.lit (.string s))))
  | some (.slice e), some .string, v => match (tiOf P e).map TI.sh with
    | some (.int .u8) => ((rowsOf hp v).bind bytesOf).map fun l => .one (.v (.lit (.string ⟨l.toArray⟩)))
    | _ => none
  | _, _, _ => none
def mkAV (i : TI) (cs : List C) : Option AV :=
  if cs.length = i.size then
    if i.isAgg then some (.agg cs) else match cs with | [c] => some (.one c) | _ => none
  else none
def loadAV (i : TI) (hp : Hp) (a : AV) : Option AV :=
  match a with
  | .one (.ptr b off) => match hp[b]? with
    | some (some (.box _ cs)) => mkAV i ((cs.drop off).take i.size)
    | _ => none
  | .one (.eptr b r k off) => match hp[b]? with
    | some (some (.arr _ k' rows)) => if k' = k then match rows[r]? with | some row => mkAV i (((row.drop off).take i.size).map .v) | none => none else none
    | some (some (.arj _ k' _ rows)) => if k' = k then match rows[r]? with | some row => mkAV i (((row.drop off).take i.size).map .v) | none => none else none
    | _ => none
  | .one (.vptr cs) => mkAV i ((cs.take i.size).map .v)
  | _ => none
def fieldAddrAV (i : TI) (f : Nat) (a : AV) : Option AV :=
  match i.sh with
  | .struct fs => match fs[f]? with
    | some (_, o) => match a with
      | .one (.ptr b off) => some (.one (.ptr b (off + o)))
      | .one (.eptr b r k off) => some (.one (.eptr b r k (off + o)))
      | .one (.vptr cs) => some (.one (.vptr (cs.drop o)))
      | _ => none
    | none => none
  | _ => none
def fieldAV (P : Program) (i : TI) (f : Nat) (a : AV) : Option AV :=
  match i.sh with
  | .struct fs => match fs[f]? with
    | some (t, o) => match a, tiOf P t with
      | .agg cs, some j => mkAV j ((cs.drop o).take j.size)
      | _, _ => none
    | none => none
  | _ => none
def intOfAV : AV → Option Int
  | .one (.v (.lit (.int _ n))) => some n
  | _ => none
def indexAddrAV (P : Program) (i : TI) (hp : Hp) (a : AV) (n : Int) : Option (Prop × AV) :=
  match i.sh with
  | .slice e => match tiOf P e with
    | some j => match a with
      | .one (.ar b) => match hp[b]? with
        | some (some (.arr _ k rows)) => if k = j.size then some (0 ≤ n ∧ n < rows.length, .one (.eptr b n.toNat k 0)) else none
        | _ => none
      | .one (.sub b k off len _) => match hp[b]? with
        | some (some (.arj _ k' _ rows)) => if k = j.size ∧ k' = k then some (0 ≤ n ∧ n < len ∧ off + len ≤ rows.length, .one (.eptr b (off + n.toNat) k 0)) else none
        | _ => none
      | .one (.v (.sl rows)) => match rows[n.toNat]? with | some row => if row.length = j.size then some (0 ≤ n, .one (.vptr row)) else none | none => none
      | .one (.full rows) => match rows[n.toNat]? with | some row => if row.length = j.size then some (0 ≤ n, .one (.vptr row)) else none | none => none
      | _ => none
    | none => none
  | .array m e => match tiOf P e with
    | some j => match a with
      | .one (.ptr b off) => some (0 ≤ n ∧ n < m, .one (.ptr b (off + n.toNat * j.size)))
      | .one (.vptr cs) => some (0 ≤ n ∧ n < m, .one (.vptr (cs.drop (n.toNat * j.size))))
      | _ => none
    | none => none
  | _ => none
def indexAV (P : Program) (i : TI) (a : AV) (n : Int) : Option (Prop × AV) :=
  match i.sh, a with
  | .string, .one (.v (.lit (.string s))) => some (0 ≤ n ∧ n < s.size, .one (.v (.lit (.int .u8 (byteAt s n.toNat)))))
  | .array m e, .agg cs => match tiOf P e with
    | some j => (mkAV j ((cs.drop (n.toNat * j.size)).take j.size)).map fun v => (0 ≤ n ∧ n < m, v)
    | none => none
  | _, _ => none
def UL (k : Nat) (rows : List (List V)) : Prop := ∀ row ∈ rows, row.length = k
def boundAV (d : Int) : Option AV → Option Int
  | none => some d
  | some v => intOfAV v
def sliceRows (k : Nat) (rows : List (List V)) (lo hi mx : Option AV) : Option (Prop × AV) :=
  match boundAV 0 lo, boundAV rows.length hi with
  | some l, some h => match mx with
    | none => some (UL k rows ∧ 0 ≤ l ∧ l ≤ h ∧ h ≤ rows.length, .one (.v (.sl ((rows.take h.toNat).drop l.toNat))))
    | some m => match intOfAV m, hi with
      | some m, some _ => some (UL k rows ∧ 0 ≤ l ∧ l ≤ h ∧ h = m ∧ m ≤ rows.length, .one (.full ((rows.take h.toNat).drop l.toNat)))
      | _, _ => none
  | _, _ => none
def sliceSub (i k off len c : Nat) (lo hi mx : Option AV) : Option (Prop × AV) :=
  match boundAV 0 lo, boundAV len hi with
  | some l, some h => match mx with
    | none => some (0 ≤ l ∧ l ≤ h ∧ off + h ≤ c, .one (.sub i k (off + l.toNat) (h.toNat - l.toNat) c))
    | some m => match intOfAV m, hi with
      | some m, some _ => some (0 ≤ l ∧ l ≤ h ∧ h ≤ m ∧ off + m ≤ c, .any)
      | _, _ => none
  | _, _ => none
def sliceAV (P : Program) (i : TI) (a : AV) (lo hi mx : Option AV) : Option (Prop × AV) :=
  match i.sh with
  | .string => match a, mx with
    | .one (.v (.lit (.string s))), none => match boundAV 0 lo, boundAV s.size hi with
      | some l, some h => some (0 ≤ l ∧ l ≤ h ∧ h ≤ s.size, .one (.v (.lit (.string (s.extract l.toNat h.toNat)))))
      | _, _ => none
    | _, _ => none
  | .slice e => match tiOf P e with
    | some j => match a with
      | .one (.v (.sl rows)) => sliceRows j.size rows lo hi mx
      | .one (.full rows) => sliceRows j.size rows lo hi mx
      | .one .nil => sliceRows j.size [] lo hi mx
      | .one (.sub i' k off len c) => if k = j.size then sliceSub i' k off len c lo hi mx else none
      | _ => none
    | none => none
  | _ => none
def minmaxI (isMax : Bool) : List AV → Option AV
  | [.one (.v (.lit (.int k a))), .one (.v (.lit (.int _ b)))] => some (.one (.v (.lit (.int k (if isMax then (if a < b then b else a) else (if b < a then b else a))))))
  | _ => none
def avC : AV → Option C
  | .one c => some c
  | _ => none
def avCs : List AV → Option (List C)
  | [] => some []
  | v :: r => match avC v, avCs r with | some c, some cs => some (c :: cs) | _, _ => none
def cellsAV : AV → Option (List C)
  | .one c => some [c]
  | .agg cs => some cs
  | _ => none
def buildAV (i : TI) (place : Nat → Option (Nat × Nat)) : List C → List (Nat × AV) → Option (List C)
  | cs, [] => some cs
  | cs, (f, v) :: r => match place f, cellsAV v with
    | some (o, k), some xs => if xs.length = k ∧ o + k ≤ cs.length then buildAV i place (cs.take o ++ xs ++ cs.drop (o + k)) r else none
    | _, _ => none
def placesOf (P : Program) (i : TI) (f : Nat) : Option (Nat × Nat) :=
  match i.sh with
  | .struct fs => match fs[f]? with
    | some (t, o) => match tiOf P t with | some j => some (o, j.size) | none => none
    | none => none
  | .array _ e => match tiOf P e with | some j => some (f * j.size, j.size) | none => none
  | _ => none
def elemOk (P : Program) (i : TI) : Bool := match i.sh with | .array _ e => (tiOf P e).isSome | .struct _ => true | _ => false
def pureOp (P : Program) (hp : Hp) (ev : Operand → AV) : Op → Option (Prop × AV)
  | .move x | .assign x => some (True, ev x)
  | .load t a => match tiOf P t with | some i => (loadAV i hp (ev a)).map fun v => (True, v) | none => none
  | .binOp op t x y _ => binAV (tiOf P t) op (ev x) (ev y)
  | .unOp op _ x => (unAV op (ev x)).map fun v => (True, v)
  | .convert src dst x => (convAV P (tiOf P src) (tiOf P dst) hp (ev x)).map fun v => (True, v)
  | .slice t x lo hi mx => match tiOf P t with | some i => sliceAV P i (ev x) (lo.map ev) (hi.map ev) (mx.map ev) | none => none
  | .fieldAddr t x f => match tiOf P t with | some i => (fieldAddrAV i f (ev x)).map fun v => (True, v) | none => none
  | .field t x f => match tiOf P t with | some i => (fieldAV P i f (ev x)).map fun v => (True, v) | none => none
  | .indexAddr t x ix => match tiOf P t, intOfAV (ev ix) with | some i, some n => indexAddrAV P i hp (ev x) n | _, _ => none
  | .index t x ix => match tiOf P t, intOfAV (ev ix) with | some i, some n => indexAV P i (ev x) n | _, _ => none
  | .extract t i => match ev t with | .tup l => (l[i]?).map fun v => (True, v) | _ => none
  | .nilCheck x => match ev x with
    | .one (.ptr i o) => some (True, .one (.ptr i o))
    | .one (.eptr i r k o) => some (True, .one (.eptr i r k o))
    | .one (.vptr cs) => some (True, .one (.vptr cs))
    | .fn f a b => some (True, .fn f a b)
    | _ => none
  | .makeFunc (.func f) first caps => match avCs (first.toList.map ev), avCs (caps.toList.map ev) with
    | some a, some b => some (True, .fn f a b)
    | _, _ => none
  | .build t parts => match tiOf P t with
    | some i => if elemOk P i then (buildAV i (placesOf P i) (i.zero.map vC) (parts.toList.map fun (k, x) => (k, ev x))).map fun cs => (True, .agg cs) else none
    | none => none
  | .lookup t x k okk => mpLook P hp t (ev x) (ev k) okk
  | .call { callee := .builtin .len, args := args, argTypes := ts } => match args.toList, ts.toList with
    | [x], [t] => match (tiOf P t).map TI.sh with
      | some .string => match ev x with | .one (.v (.lit (.string s))) => some (True, .one (.v (.lit (.int .i64 s.size)))) | _ => none
      | some (.slice _) => match ev x with
        | .one (.sub _ _ _ len _) => some (True, .one (.v (.lit (.int .i64 (len : Int)))))
        | v => (rowsOf hp v).map fun r => (True, .one (.v (.lit (.int .i64 (r.length : Int)))))
      | some (.array n _) => some (True, .one (.v (.lit (.int .i64 (n : Int)))))
      | none => mpLen P hp t (ev x)
      | _ => none
    | _, _ => none
  | .call { callee := .builtin .min, args := args, argTypes := _ } => (minmaxI false (args.toList.map ev)).map fun v => (True, v)
  | .call { callee := .builtin .max, args := args, argTypes := _ } => (minmaxI true (args.toList.map ev)).map fun v => (True, v)
  | _ => none
end Go.Proofs.AE
set_option linter.unusedVariables false
set_option linter.unusedSimpArgs false
namespace Go.Proofs.AE
open Go Go.RowKit
section
variable {P : Program} {n : Nat} {w : World} {ok : Nat → Prop} {μ : List MB} {s : S} {a : Act}
theorem oneCell_of_nice {x : Value} (h : niceB x = true) : x.oneCell' = true := by cases x <;> simp_all [niceB, Value.oneCell']
theorem cV_rel (x : Value) (h : niceB x = true) : CRel w ok μ (cV x) x := by
  unfold cV
  split <;> first
    | exact .nil
    | exact .v (.lit _ rfl)
    | exact .any (oneCell_of_nice h)
theorem cVs_rel : ∀ (l : List Value), l.all niceB = true → All2 (CRel w ok μ) (l.map cV) l
  | [], _ => .nil
  | x :: l, h => .cons (cV_rel x (by simp at h; exact h.1)) (cVs_rel l (by simp at h; simpa using h.2))
theorem cAV_rel (x : Value) : AVRel w ok μ (cAV x) x := by
  unfold cAV
  split
  · rename_i xs
    split
    · rename_i h; exact .agg (cVs_rel _ h)
    · exact .any
  all_goals first
    | exact .one .nil
    | exact .one (.v (.lit _ rfl))
    | exact .any
    | skip
  rename_i f first caps
  split
  · rename_i h
    obtain ⟨h1, h2⟩ := h
    obtain rfl := Array.eq_empty_of_size_eq_zero h1
    obtain rfl := Array.eq_empty_of_size_eq_zero h2
    exact .fn .nil .nil
  · exact .any
theorem St.eval (h : St n w ok μ s a) (x : Operand) : AVRel w ok μ (s.eval x) (a.eval x) := by
  cases x with
  | tmp t => exact h.fr t
  | const v => exact cAV_rel v
  | global g => exact h.gl g μ
  | func f => exact .fn .nil .nil
theorem TIs.size {t : TypeId} {i : TI} (h : TIs P t i) : ∃ j, P.info? t = some j ∧ j.size = i.size := by
  obtain ⟨j, hj, hs, _⟩ := h.info; exact ⟨j, hj, hs⟩
theorem run_sizeOf {t : TypeId} {i : TI} (h : TIs P t i) (w : World) : (sizeOf t).run P w = .ok i.size w := by
  obtain ⟨j, hj, hs⟩ := h.size
  simp [sizeOf, typeInfo, hj, hs]
theorem TIs.und_agg {t : TypeId} {i : TI} (h : TIs P t i) (w : World) : (isAgg t).run P w = .ok i.isAgg w := by
  obtain ⟨d, hd, hs⟩ := h.und
  simp only [Go.isAgg, Sem.run_bind, run_underlying hd, Result.andThen_ok]
  unfold TI.isAgg
  cases d <;> simp only [shOf] at hs <;> first
    | (have he := Option.some.inj hs; rw [← he]; rfl)
    | (split at hs <;> first
        | (have he := Option.some.inj hs; rw [← he]; rfl)
        | cases hs)
theorem TIs.struct {t : TypeId} {i : TI} {fs : List (Nat × Nat)} (h : TIs P t i) (hs : i.sh = .struct fs) :
    ∃ as : Array Field, P.underlying t = some (.struct as) ∧ fs = as.toList.map (fun f => (f.type, f.offset)) ∧ ∀ f ∈ as.toList, ∃ j, P.info? f.type = some j ∧ j.size ≠ 0 := by
  obtain ⟨d, hd, h1⟩ := h.und
  rw [hs] at h1
  cases d <;> simp only [shOf] at h1 <;> first
    | (cases h1; done)
    | (have he := Option.some.inj h1; cases he; done)
    | skip
  split at h1
  · rename_i as hall
    have he := Option.some.inj h1
    refine ⟨as, hd, (Sh.struct.inj he).symm, fun f hf => ?_⟩
    have h2 := List.all_eq_true.1 hall f hf
    split at h2
    · rename_i j hj; exact ⟨j, hj, by simpa using h2⟩
    · cases h2
  · cases h1
theorem TIs.slice {t e : TypeId} {i : TI} (h : TIs P t i) (hs : i.sh = .slice e) : P.underlying t = some (.slice e) := by
  obtain ⟨d, hd, h1⟩ := h.und
  rw [hs] at h1
  cases d <;> simp only [shOf] at h1 <;> first
    | exact hd
    | (have he := Option.some.inj h1; cases he; first | exact hd | done)
    | (split at h1 <;> first | (have he := Option.some.inj h1; cases he; done) | (cases h1; done))
theorem TIs.array {t e m : Nat} {i : TI} (h : TIs P t i) (hs : i.sh = .array m e) : P.underlying t = some (.array m e) := by
  obtain ⟨d, hd, h1⟩ := h.und
  rw [hs] at h1
  cases d <;> simp only [shOf] at h1 <;> first
    | exact hd
    | (have he := Option.some.inj h1; cases he; first | exact hd | done)
    | (split at h1 <;> first | (have he := Option.some.inj h1; cases he; done) | (cases h1; done))
theorem TIs.string {t : TypeId} {i : TI} (h : TIs P t i) (hs : i.sh = .string) : P.underlying t = some .string := by
  obtain ⟨d, hd, h1⟩ := h.und
  rw [hs] at h1
  cases d <;> simp only [shOf] at h1 <;> first
    | exact hd
    | (have he := Option.some.inj h1; cases he; first | exact hd | done)
    | (split at h1 <;> first | (have he := Option.some.inj h1; cases he; done) | (cases h1; done))
theorem TIs.bool {t : TypeId} {i : TI} (h : TIs P t i) (hs : i.sh = .bool) : P.underlying t = some .bool := by
  obtain ⟨d, hd, h1⟩ := h.und
  rw [hs] at h1
  cases d <;> simp only [shOf] at h1 <;> first
    | exact hd
    | (have he := Option.some.inj h1; cases he; first | exact hd | done)
    | (split at h1 <;> first | (have he := Option.some.inj h1; cases he; done) | (cases h1; done))
theorem TIs.int {t : TypeId} {i : TI} {k : IntKind} (h : TIs P t i) (hs : i.sh = .int k) : P.underlying t = some (.int k) := by
  obtain ⟨d, hd, h1⟩ := h.und
  rw [hs] at h1
  cases d <;> simp only [shOf] at h1 <;> first
    | exact hd
    | (have he := Option.some.inj h1; cases he; first | exact hd | done)
    | (split at h1 <;> first | (have he := Option.some.inj h1; cases he; done) | (cases h1; done))
theorem TIs.iface {t : TypeId} {i : TI} (h : TIs P t i) (hs : i.sh = .iface) : ∃ ms, P.underlying t = some (.interface ms) := by
  obtain ⟨d, hd, h1⟩ := h.und
  rw [hs] at h1
  cases d <;> simp only [shOf] at h1 <;> first
    | exact ⟨_, hd⟩
    | (have he := Option.some.inj h1; cases he; first | exact ⟨_, hd⟩ | done)
    | (split at h1 <;> first | (have he := Option.some.inj h1; cases he; done) | (cases h1; done))
theorem mkAV_rel {i : TI} {cs : List C} {xs : List Value} {v : AV} (hm : mkAV i cs = some v) (h : All2 (CRel w ok μ) cs xs) :
    (i.isAgg = true → AVRel w ok μ v (.agg xs.toArray)) ∧ (i.isAgg = false → ∃ x, xs = [x] ∧ AVRel w ok μ v x) ∧ xs.length = i.size := by
  unfold mkAV at hm
  split at hm
  · rename_i hl
    refine ⟨fun hg => ?_, fun hg => ?_, h.length ▸ hl⟩
    · rw [if_pos hg] at hm; cases hm; exact .agg h
    · rw [hg] at hm
      simp only [Bool.false_eq_true, if_false] at hm
      split at hm
      · cases hm
        cases h with
        | cons h1 h2 => cases h2; exact ⟨_, rfl, .one h1⟩
      · cases hm
  · cases hm
theorem run_load_cells {t : TypeId} {i : TI} (hi : TIs P t i) {ad : Addr} {xs : List Value} (hl : xs.length = i.size)
    (h : ∀ (j : Nat) x, xs[j]? = some x → w.cell? (ad.add j) = some x) :
    (loadVar t ad).run P w = .ok (if i.isAgg then .agg xs.toArray else xs.getD 0 undef) w ∨ (i.isAgg = false ∧ xs.length ≠ 1) := by
  by_cases hg : i.isAgg = true
  · left
    have h1 := run_loadCells_list (P := P) (w := w) ad xs h
    simp only [loadVar, Sem.run_bind, hi.und_agg, Result.andThen_ok, hg, if_true, run_sizeOf hi, ← hl, h1, Sem.run_pure]
  · have hg' : i.isAgg = false := by simpa using hg
    by_cases h1 : xs.length = 1
    · left
      match xs, h1 with
      | [x], _ =>
        have hc := h 0 x rfl
        simp only [Addr.add, if_true] at hc
        simp [loadVar, hi.und_agg, hg', hc]
    · right; exact ⟨hg', h1⟩
theorem flatten_get {α : Type} {k : Nat} : ∀ {rows : List (List α)} {r : Nat} {row : List α}, (∀ x ∈ rows, x.length = k) → rows[r]? = some row → ∀ j, j < k → rows.flatten[r * k + j]? = row[j]?
  | [], r, row, _, h, _, _ => by simp at h
  | x :: rows, 0, row, hk, h, j, hj => by
    simp at h; subst h
    have hx := hk x (by simp)
    simp [List.getElem?_append, hx, hj]
  | x :: rows, r + 1, row, hk, h, j, hj => by
    have hx := hk x (by simp)
    have h1 : rows[r]? = some row := by simpa using h
    have ih := flatten_get (fun y hy => hk y (by simp [hy])) h1 j hj
    simp only [List.flatten_cons, List.getElem?_append]
    rw [if_neg (by rw [hx]; have : k ≤ (r + 1) * k := Nat.le_mul_of_pos_left k (by omega); omega), hx, ← ih]
    congr 1
    rw [Nat.add_mul]; omega
theorem map_v_rel {l : List V} {xs : List Value} (h : All2 (VRel w ok) l xs) : All2 (CRel w ok μ) (l.map .v) xs := All2.map_left (h.mono fun _ _ h => .v h)
theorem loadAV_cells {i : TI} {v r : AV} {x : Value} (hr : HR w ok μ s.hp) (hl : loadAV i s.hp v = some r) (hv : AVRel w ok μ v x) :
    ∃ (ad : Addr) (cs : List C) (xs : List Value), x = .pointer (some ad) ∧ ad.spot = none ∧ mkAV i cs = some r ∧ All2 (CRel w ok μ) cs xs ∧ ∀ (j : Nat) y, xs[j]? = some y → w.cell? (ad.add j) = some y := by
  unfold loadAV at hl
  split at hl
  · rename_i b off
    split at hl
    · rename_i t cs hb
      obtain ⟨m, hm, hbr⟩ := hr.rel _ _ hb
      cases hv with
      | one hc =>
        cases hc with
        | ptr _ hμ =>
          rw [hμ] at hm; cases hm
          obtain ⟨xs, hh, hall⟩ := hbr
          refine ⟨_, _, _, rfl, rfl, hl, (hall.drop off).take i.size, ?_⟩
          intro j y hy
          rw [List.getElem?_take] at hy
          split at hy
          · rw [List.getElem?_drop] at hy
            rw [Addr.add_lit, cell_of_row w _ _ _ _ _ hh]
            simpa using hy
          · cases hy
    · cases hl
  · rename_i b r' k off
    split at hl
    · rename_i e k' rows hb
      split at hl
      · rename_i hk
        subst hk
        split at hl
        · rename_i row hrow
          obtain ⟨m, hm, hbr⟩ := hr.rel _ _ hb
          cases hv with
          | one hc =>
            cases hc with
            | eptr _ _ _ hμ =>
              rw [hμ] at hm; cases hm
              obtain ⟨xs, hown, hall, hk⟩ := hbr
              have hmem := List.mem_of_getElem? hrow
              have hrl := hk row hmem
              have hget : ∀ j, j < k' → xs[r' * k' + j]? = ((xs.drop (r' * k')).take k')[j]? := by
                intro j hj; rw [List.getElem?_take, if_pos hj, List.getElem?_drop]
              have hrow2 : All2 (VRel w ok) row ((xs.drop (r' * k')).take k') := by
                have h1 := (hall.drop (r' * k')).take k'
                have : (rows.flatten.drop (r' * k')).take k' = row := by
                  apply List.ext_getElem?
                  intro j
                  rw [List.getElem?_take]
                  split
                  · rename_i hj; rw [List.getElem?_drop, flatten_get hk hrow j hj]
                  · rw [List.getElem?_eq_none (by omega)]
                rwa [this] at h1
              refine ⟨_, _, _, rfl, rfl, hl, map_v_rel ((hrow2.drop off).take i.size), ?_⟩
              intro j y hy
              rw [List.getElem?_take] at hy
              split at hy
              · rw [List.getElem?_drop, List.getElem?_take] at hy
                split at hy
                · rw [List.getElem?_drop] at hy
                  rw [Addr.add_lit]
                  have h2 := hown.cells (g := _) rfl (r' * k' + (off + j)) y hy
                  rw [Addr.add_lit] at h2
                  simpa [Nat.add_assoc] using h2
                · cases hy
              · cases hy
        · cases hl
      · cases hl
    · rename_i e k' cc rows hb
      split at hl
      · rename_i hk
        subst hk
        split at hl
        · rename_i row hrow
          obtain ⟨m, hm, hbr⟩ := hr.rel _ _ hb
          cases hv with
          | one hc =>
            cases hc with
            | eptr _ _ _ hμ =>
              rw [hμ] at hm; cases hm
              obtain ⟨_, hk, hbr⟩ := hbr
              rcases hbr with ⟨hx, _⟩ | ⟨g', n', cur, heq, hg, hrc, hcm, hcs, hall⟩
              · cases hx
              cases heq
              obtain ⟨xs, hxs⟩ : ∃ xs, cur.toList.take (rows.length * k') = xs := ⟨_, rfl⟩
              rw [hxs] at hall
              have hmem := List.mem_of_getElem? hrow
              have hrl := hk row hmem
              have hget : ∀ j, j < k' → xs[r' * k' + j]? = ((xs.drop (r' * k')).take k')[j]? := by
                intro j hj; rw [List.getElem?_take, if_pos hj, List.getElem?_drop]
              have hrow2 : All2 (VRel w ok) row ((xs.drop (r' * k')).take k') := by
                have h1 := (hall.drop (r' * k')).take k'
                have : (rows.flatten.drop (r' * k')).take k' = row := by
                  apply List.ext_getElem?
                  intro j
                  rw [List.getElem?_take]
                  split
                  · rename_i hj; rw [List.getElem?_drop, flatten_get hk hrow j hj]
                  · rw [List.getElem?_eq_none (by omega)]
                rwa [this] at h1
              refine ⟨_, _, _, rfl, rfl, hl, map_v_rel ((hrow2.drop off).take i.size), ?_⟩
              intro j y hy
              rw [List.getElem?_take] at hy
              split at hy
              · rw [List.getElem?_drop, List.getElem?_take] at hy
                split at hy
                · rw [List.getElem?_drop] at hy
                  rw [Addr.add_lit]
                  rw [cell_of_row w _ _ _ _ _ hg]
                  rw [← hxs, List.getElem?_take] at hy
                  split at hy
                  · rw [Nat.add_assoc]; simpa using hy
                  · cases hy
                · cases hy
              · cases hy
        · cases hl
      · cases hl
    · cases hl
  · rename_i cs
    cases hv with
    | one hc =>
      cases hc with
      | vptr b off cv hok hcell hrel =>
        have hall : All2 (VRel w ok) cs ((List.range cs.length).map cv) := by
          refine All2.of_get (by simp) ?_
          intro j v y hj hy
          have hjl : j < cs.length := by
            rcases Nat.lt_or_ge j cs.length with h' | h'
            · exact h'
            · simp [List.getElem?_eq_none h'] at hj
          simp [List.getElem?_map, List.getElem?_range hjl] at hy
          subst hy
          exact hrel j v hj
        refine ⟨_, _, _, rfl, rfl, hl, map_v_rel (hall.take i.size), ?_⟩
        intro j y hy
        rw [List.getElem?_take] at hy
        split at hy
        · by_cases hjl : j < cs.length
          · simp [List.getElem?_map, List.getElem?_range hjl] at hy
            subst hy
            rw [Addr.add_lit]
            exact hcell j _ (List.getElem?_eq_getElem hjl)
          · rw [List.getElem?_eq_none (by simp; omega)] at hy; cases hy
        · cases hy
  · cases hl
theorem load_sound {t : TypeId} {i : TI} {v r : AV} {x : Value} (hr : HR w ok μ s.hp) (hi : tiOf P t = some i) (hl : loadAV i s.hp v = some r) (hv : AVRel w ok μ v x) :
    ∃ y, (Instr.loadAt t x).run P w = .ok y w ∧ AVRel w ok μ r y := by
  have hti := tiOf_spec hi
  obtain ⟨ad, cs, xs, rfl, hspot, hm, hall, hcell⟩ := loadAV_cells hr hl hv
  obtain ⟨h1, h2, h3⟩ := mkAV_rel hm hall
  simp only [Instr.loadAt, Instr.sureAddr, Sem.run_bind, Sem.run_pure, Result.andThen_ok]
  rcases run_load_cells (P := P) hti h3 hcell with h | ⟨hg, hne⟩
  · rw [h]
    by_cases hg : i.isAgg = true
    · rw [if_pos hg]; exact ⟨_, rfl, h1 hg⟩
    · have hg' : i.isAgg = false := by simpa using hg
      obtain ⟨y, rfl, hy⟩ := h2 hg'
      rw [if_neg hg]; exact ⟨_, rfl, by simpa using hy⟩
  · obtain ⟨y, rfl, _⟩ := h2 hg; simp at hne
end
end Go.Proofs.AE
set_option linter.unusedVariables false
set_option linter.unusedSimpArgs false
namespace Go.Proofs.AE
open Go Go.RowKit
section
variable {P : Program} {n : Nat} {w : World} {ok : Nat → Prop} {μ : List MB} {s : S} {a : Act}
theorem run_binI (op : BinOp) (t : TypeId) (k k' : IntKind) (x y : Int) (h : (isShift op || k == k') = true) (hp : (binI op k x y).1) :
    (binOp op t (.int k x) (.int k' y)).run P w = .ok (binI op k x y).2 w := by
  cases op <;> simp only [isShift, Bool.true_or, Bool.false_or, beq_iff_eq] at h <;> (try subst h) <;> simp only [binI] at hp <;>
    first
    | (simp [binOp, Op.intArith, Op.intCmp, Op.intBits, binI, bitsV]; done)
    | (simp only [binOp, Op.shift]; simp [Int.not_lt.2 hp, binI]; done)
    | (simp only [binOp, Op.intDiv]; simp [hp, binI]; done)
theorem binI_rel (op : BinOp) (k : IntKind) (x y : Int) : (binI op k x y).2.oneCell' = true := by cases op <;> rfl
theorem toList_eq_data (a : ByteArray) : a.toList = a.data.toList := by rw [ByteArray.toList_eq]
theorem run_binS (op : BinOp) (t : TypeId) (x y : ByteArray) {p : Prop} {r : Value} (h : binS op x y = some (p, r)) (hp : p) :
    (binOp op t (.string x) (.string y)).run P w = .ok r w ∧ r.oneCell' = true := by
  have he : (x.data.toList == y.data.toList) = (x == y) := by rw [beq_toListBytes, toList_eq_data, toList_eq_data]
  cases op <;> simp only [binS] at h <;> cases h <;> simp only [binOp, Op.stringOp, toList_eq_data, he] <;> first
    | exact ⟨rfl, rfl⟩
    | (refine ⟨?_, rfl⟩; rw [if_neg (by have hm : IntKind.i64.max = 9223372036854775807 := rfl; rw [hm]; omega)]; rfl)
theorem eqGuard_lit (op : BinOp) (t : TypeId) (ox oy : Operand) {x y : Value} (h : ∀ cs ds, x = .agg cs → y = .agg ds → False) (h' : x = .nilIface → y = .nilIface → False) :
    (eqGuard op t ox oy x y).run P w = .ok () w := by
  unfold eqGuard
  split <;> first
    | rfl
    | (rw [if_neg (by simp)]
       split
       · exact (h' rfl rfl).elim
       · rename_i cs ds; exact (h cs ds rfl rfl).elim
       · rfl)
theorem run_equalIn_iface_nil {t u : TypeId} {v : Value} {ms : Array (String × TypeId)} (hu : P.underlying t = some (.interface ms)) (d : Nat) (w : World) :
    (Op.equalIn (d + 1) t (.iface u v) .nilIface).run P w = .ok false w := by
  simp [Op.equalIn, run_underlying hu]
theorem run_binV {t : TypeId} {op : BinOp} {x y : Value} {p : Prop} {r : Value} (h : binV ((tiOf P t).map TI.sh) op x y = some (p, r)) (hp : p) (ox oy : Operand) :
    ((do eqGuard op t ox oy x y; binOp op t x y : Sem Value)).run P w = .ok r w ∧ r.oneCell' = true := by
  have hg : (eqGuard op t ox oy x y).run P w = .ok () w := by
    refine eqGuard_lit _ _ _ _ ?_ ?_
    · rintro cs ds rfl rfl; simp [binV] at h
    · rintro rfl rfl; simp [binV] at h
  simp only [Sem.run_bind, hg, Result.andThen_ok]
  unfold binV at h
  split at h
  · split at h
    · rename_i k a k' b hk
      have he := Option.some.inj h
      have h1 : (binI op k a b).1 = p := by rw [he]
      have h2 : (binI op k a b).2 = r := by rw [he]
      rw [← h2]
      exact ⟨run_binI op t k k' a b hk (h1 ▸ hp), binI_rel op k a b⟩
    · cases h
  · exact run_binS _ _ _ _ h hp
  · split at h
    all_goals first | (cases h; done) | skip
    all_goals
      rename_i hs
      cases h
      obtain ⟨i, hi, hs'⟩ := Option.map_eq_some_iff.1 hs
      have hu := (tiOf_spec hi).bool hs'
      refine ⟨?_, rfl⟩
      simp [binOp, Op.equal, Op.maxDepth, run_equalIn_bool' w 9999 t _ _ hu]
  · cases h
  · split at h
    all_goals first | (cases h; done) | skip
    all_goals
      rename_i hs
      cases h
      obtain ⟨i, hi, hs'⟩ := Option.map_eq_some_iff.1 hs
      obtain ⟨ms, hu⟩ := (tiOf_spec hi).iface hs'
      refine ⟨?_, rfl⟩
      simp only [binOp, Op.equal, Op.maxDepth, Sem.run_bind, run_equalIn_iface_nil hu, Result.andThen_ok, Sem.run_pure, Bool.not_false]
  · cases h
end
end Go.Proofs.AE
set_option linter.unusedVariables false
set_option linter.unusedSimpArgs false
namespace Go.Proofs.AE
open Go Go.RowKit
section
variable {P : Program} {n : Nat} {w : World} {ok : Nat → Prop} {μ : List MB} {s : S} {a : Act}
def eqVals : List Value → List Value → Bool
  | [], [] => true
  | .int _ a :: r, .int _ b :: r' => (a == b) && eqVals r r'
  | .bool a :: r, .bool b :: r' => (a == b) && eqVals r r'
  | .string a :: r, .string b :: r' => (a == b) && eqVals r r'
  | _, _ => false
def kv2 : Sh → Value × Value → Prop
  | .int _, (.int k _, .int k' _) => k = k'
  | .bool, (.bool _, .bool _) => True
  | .string, (.string _, .string _) => True
  | _, _ => False
def Fit (l : List Sh) (xs ys : List Value) : Prop := xs.length = ys.length ∧ All2 kv2 l (xs.zip ys)
theorem eqCells_rel : ∀ {l : List Sh} {cs ds : List C} {xs ys : List Value} {b : Bool}, eqCells l cs ds = some b → All2 (CRel w ok μ) cs xs → All2 (CRel w ok μ) ds ys →
    b = eqVals xs ys ∧ Fit l xs ys
  | l, cs, ds, xs, ys, b, h, h1, h2 => by
    induction l generalizing cs ds xs ys b with
    | nil =>
      unfold eqCells at h
      split at h <;> first | (cases h; done) | skip
      all_goals first
        | (cases h; cases h1; cases h2; exact ⟨rfl, rfl, .nil⟩)
        | (simp_all; done)
    | cons q l ih =>
      unfold eqCells at h
      split at h
      · simp_all
      · rename_i e1
        obtain ⟨rfl, rfl⟩ := List.cons.inj e1
        cases h1 with | cons hc h1 =>
        cases h2 with | cons hd h2 =>
        split at h
        · rename_i hk; subst hk
          obtain ⟨b', hb', rfl⟩ := Option.map_eq_some_iff.1 h
          obtain ⟨rfl, hl, hs⟩ := ih _ _ _ _ _ hb' h1 h2
          cases hc with | v hc => cases hc with | lit _ _ =>
          cases hd with | v hd => cases hd with | lit _ _ =>
          exact ⟨rfl, by simp [hl], .cons rfl hs⟩
        · cases h
      · rename_i e1
        obtain ⟨rfl, rfl⟩ := List.cons.inj e1
        cases h1 with | cons hc h1 =>
        cases h2 with | cons hd h2 =>
        obtain ⟨b', hb', rfl⟩ := Option.map_eq_some_iff.1 h
        obtain ⟨rfl, hl, hs⟩ := ih _ _ _ _ _ hb' h1 h2
        cases hc with | v hc => cases hc with | lit _ _ =>
        cases hd with | v hd => cases hd with | lit _ _ =>
        exact ⟨rfl, by simp [hl], .cons trivial hs⟩
      · rename_i e1
        obtain ⟨rfl, rfl⟩ := List.cons.inj e1
        cases h1 with | cons hc h1 =>
        cases h2 with | cons hd h2 =>
        obtain ⟨b', hb', rfl⟩ := Option.map_eq_some_iff.1 h
        obtain ⟨rfl, hl, hs⟩ := ih _ _ _ _ _ hb' h1 h2
        cases hc with | v hc => cases hc with | lit _ _ =>
        cases hd with | v hd => cases hd with | lit _ _ =>
        exact ⟨rfl, by simp [hl], .cons trivial hs⟩
      · cases h
theorem Fit.split {l l' : List Sh} {xs ys : List Value} (h : Fit (l ++ l') xs ys) :
    Fit l (xs.take l.length) (ys.take l.length) ∧ Fit l' (xs.drop l.length) (ys.drop l.length) ∧ eqVals xs ys = (eqVals (xs.take l.length) (ys.take l.length) && eqVals (xs.drop l.length) (ys.drop l.length)) := by
  induction l generalizing xs ys with
  | nil => simpa [eqVals] using ⟨⟨rfl, .nil⟩, h⟩
  | cons q l ih =>
    obtain ⟨hl, h⟩ := h
    cases xs with
    | nil => cases h
    | cons x xs =>
    cases ys with
    | nil => cases h
    | cons y ys =>
    cases h with
    | cons hq ht =>
    obtain ⟨⟨a1, a2⟩, b, c⟩ := ih ⟨by simpa using hl, ht⟩
    refine ⟨⟨by simp at a1 ⊢; omega, .cons hq a2⟩, by simpa using b, ?_⟩
    cases x <;> cases y <;> (try (cases q <;> exact hq.elim)) <;> simp [eqVals, c, Bool.and_assoc]
def aggB (P : Program) (t : TypeId) : Bool := match P.underlying t with | some (.struct _) | some (.array _ _) => true | _ => false
def mkT (P : Program) (t : TypeId) (l : List Value) : Value := if aggB P t then .agg l.toArray else l.getD 0 undef
theorem run_isAgg {t : TypeId} {d : TypeDesc} (hd : P.underlying t = some d) (w : World) : (isAgg t).run P w = .ok (aggB P t) w := by
  unfold aggB Go.isAgg
  simp only [Sem.run_bind, run_underlying hd, Result.andThen_ok, hd]
  cases d <;> rfl
theorem run_part {t : TypeId} {d : TypeDesc} (hd : P.underlying t = some d) {m : Nat} (hz : (P.info? t).map (·.size) = some m) (hm : aggB P t = false → m = 1) {cs : Array Value} {off : Nat} (h : off + m ≤ cs.size) (w : World) :
    (part t cs off).run P w = .ok (mkT P t ((cs.toList.drop off).take m)) w := by
  unfold part
  simp only [Sem.run_bind, run_isAgg hd, Result.andThen_ok, mkT]
  cases hb : aggB P t with
  | true =>
    obtain ⟨i, hi, rfl⟩ := Option.map_eq_some_iff.1 hz
    simp only [sizeOf, typeInfo, if_true, Sem.run_bind, run_program, Result.andThen_ok, hi, Sem.run_pure]
    congr 2
    apply Array.ext'
    simp
  | false =>
    have := hm hb; subst this
    simp only [Bool.false_eq_true, if_false]
    have hx : cs[off]? = some cs[off] := Array.getElem?_eq_getElem (by omega)
    rw [hx]
    simp only [Sem.run_pure]
    congr 1
    rw [List.getD_eq_getElem?_getD, List.getElem?_take, if_pos (by omega), List.getElem?_drop]
    simp [hx]
theorem flatB_len {d : Nat} {t : TypeId} {l : List Sh} (h : flatB P d t = some l) : ∃ dd, P.underlying t = some dd ∧ (aggB P t = false → l.length = 1) := by
  cases d with
  | zero => cases h
  | succ d =>
    unfold flatB at h
    split at h
    · rename_i hu; cases h; exact ⟨_, hu, fun _ => rfl⟩
    · rename_i hu; cases h; exact ⟨_, hu, fun _ => rfl⟩
    · rename_i hu; cases h; exact ⟨_, hu, fun _ => rfl⟩
    · rename_i hu; exact ⟨_, hu, fun hb => by simp [aggB, hu] at hb⟩
    · cases h
theorem run_flat : ∀ (d : Nat) (t : TypeId) (l : List Sh) (e : Nat), flatB P d t = some l → ∀ (xs ys : List Value) (w : World), Fit l xs ys →
    (Op.equalIn (d + e) t (mkT P t xs) (mkT P t ys)).run P w = .ok (eqVals xs ys) w := by
  intro d
  induction d with
  | zero => intro t l e h; cases h
  | succ d ih =>
    intro t l e h xs ys w hf
    have hde : d + 1 + e = (d + e) + 1 := by omega
    rw [hde]
    unfold flatB at h
    split at h
    · rename_i hu
      cases h
      obtain ⟨hl, hf⟩ := hf
      have hb : aggB P t = false := by simp [aggB, hu]
      match xs, ys, hf with
      | x :: xs, y :: ys, .cons hq ht =>
        have h0 : xs = [] ∧ ys = [] := by cases xs <;> cases ys <;> first | exact ⟨rfl, rfl⟩ | (simp at hl; done) | (cases ht)
        obtain ⟨rfl, rfl⟩ := h0
        cases x <;> cases y <;> first | exact hq.elim | skip
        simp [mkT, hb, eqVals, run_equalIn_bool' w _ t _ _ hu]
    · rename_i k hu
      cases h
      obtain ⟨hl, hf⟩ := hf
      have hb : aggB P t = false := by simp [aggB, hu]
      match xs, ys, hf with
      | x :: xs, y :: ys, .cons hq ht =>
        have h0 : xs = [] ∧ ys = [] := by cases xs <;> cases ys <;> first | exact ⟨rfl, rfl⟩ | (simp at hl; done) | (cases ht)
        obtain ⟨rfl, rfl⟩ := h0
        cases x <;> cases y <;> first | exact hq.elim | skip
        cases hq
        simp [mkT, hb, eqVals, run_equalIn_int w _ t _ _ _ _ hu]
    · rename_i hu
      cases h
      obtain ⟨hl, hf⟩ := hf
      have hb : aggB P t = false := by simp [aggB, hu]
      match xs, ys, hf with
      | x :: xs, y :: ys, .cons hq ht =>
        have h0 : xs = [] ∧ ys = [] := by cases xs <;> cases ys <;> first | exact ⟨rfl, rfl⟩ | (simp at hl; done) | (cases ht)
        obtain ⟨rfl, rfl⟩ := h0
        cases x <;> cases y <;> first | exact hq.elim | skip
        simp [mkT, hb, eqVals, run_equalIn_string w _ t _ _ hu, beq_toListBytes]
    · rename_i fs hu
      split at h
      · cases h
      · rename_i hst
        have hb : aggB P t = true := by simp [aggB, hu]
        have hfo : P.fieldsOf t = fs := by simp [Program.fieldsOf, hu]
        simp only [mkT, hb, if_true]
        rw [run_equalIn_agg w (d + e) t _ _ (by rw [hfo]; exact hu) (by simpa using hst), hfo]
        have key : ∀ (fs : List Field) (acc l : List Sh) (xs ys : List Value), flatFs (flatB P d) (fun u => (P.info? u).map (·.size)) fs acc = some l → Fit l xs ys →
            acc.length ≤ l.length ∧ ∃ l', l = acc ++ l' ∧ (Op.eqFields (d + e) xs.toArray ys.toArray fs).run P w = .ok (eqVals (xs.drop acc.length) (ys.drop acc.length)) w := by
          intro fs
          induction fs with
          | nil =>
            intro acc l xs ys h hf
            simp only [flatFs] at h; cases h
            refine ⟨Nat.le_refl _, [], by simp, ?_⟩
            have hlx : xs.length = acc.length := by
              have := hf.2.length; rw [List.length_zip, hf.1, Nat.min_self] at this; rw [hf.1]; omega
            have hly : ys.length = acc.length := hf.1 ▸ hlx
            simp [Op.eqFields, ← hlx]
            rw [hlx, ← hly]; simp [eqVals]
          | cons f fs ihf =>
            intro acc l xs ys h hf
            simp only [flatFs] at h
            split at h
            · rename_i hc
              obtain ⟨hname, hoff⟩ := hc
              split at h
              · rename_i m hm
                split at h
                · rename_i hz
                  obtain ⟨hle, l', hl', hrun⟩ := ihf (acc ++ m) l xs ys h hf
                  refine ⟨by rw [List.length_append] at hle; omega, m ++ l', by rw [hl', List.append_assoc], ?_⟩
                  obtain ⟨dd, hdd, hone⟩ := flatB_len hm
                  have hlen : l.length = xs.length := by
                    have := hf.2.length; rw [List.length_zip, hf.1, Nat.min_self] at this; rw [hf.1]; exact this
                  have hlen2 : l.length = ys.length := hf.1 ▸ hlen
                  have hsz : acc.length + m.length ≤ xs.length := by rw [← hlen, hl']; simp
                  rw [hl', List.append_assoc] at hf
                  obtain ⟨_, hf2, _⟩ := hf.split
                  obtain ⟨hf3, hf4, he⟩ := hf2.split
                  have hx := run_part (P := P) hdd hz hone (cs := xs.toArray) (off := f.offset) (by rw [hoff]; simpa using hsz) w
                  have hy := run_part (P := P) hdd hz hone (cs := ys.toArray) (off := f.offset) (by rw [hoff]; have := hsz; rw [hf.1] at this; simpa using this) w
                  rw [hoff] at hx hy
                  simp only at hx hy
                  have hr := ih f.type m e hm ((xs.drop acc.length).take m.length) ((ys.drop acc.length).take m.length) w hf3
                  simp only [Op.eqFields]
                  rw [if_pos hname]
                  simp only [Sem.run_bind, hoff, hx, hy, Result.andThen_ok, hr]
                  rw [he]
                  rw [List.length_append] at hrun
                  cases eqVals ((xs.drop acc.length).take m.length) ((ys.drop acc.length).take m.length) with
                  | true =>
                    simp only [Bool.not_true, Bool.false_eq_true, if_false, Bool.true_and, List.drop_drop]
                    exact hrun
                  | false => simp
                · cases h
              · cases h
            · cases h
        obtain ⟨_, l', hl', hrun⟩ := key fs.toList [] l xs ys h hf
        simpa using hrun
    · cases h
end
end Go.Proofs.AE
set_option linter.unusedVariables false
set_option linter.unusedSimpArgs false
namespace Go.Proofs.AE
open Go Go.RowKit
section
variable {P : Program} {n : Nat} {w : World} {ok : Nat → Prop} {μ : List MB} {hp : Hp}
theorem intOfAV_rel {v : AV} {x : Value} {m : Int} (h : intOfAV v = some m) (hv : AVRel w ok μ v x) : ∃ k, x = .int k m := by
  unfold intOfAV at h
  split at h
  · cases h; cases hv with | one hc => cases hc with | v hc => cases hc with | lit _ _ => exact ⟨_, rfl⟩
  · cases h
theorem lit_rel {y x : Value} (hv : AVRel w ok μ (.one (.v (.lit y))) x) : x = y := by
  cases hv with | one hc => cases hc with | v hc => cases hc with | lit _ _ => rfl
theorem avlit {x : Value} (h : x.oneCell' = true) : AVRel w ok μ (.one (.v (.lit x))) x := .one (.v (.lit x h))
def RowsAt (w : World) (ok : Nat → Prop) (rows : List (List V)) (x : Value) : Prop :=
  (x = .slice none 0 0 ∧ rows = []) ∨
  ∃ (a : Addr) (cap : Nat), x = .slice (some a) rows.length cap ∧ rows.length ≤ cap ∧ cap ≤ maxLen ∧
    ∀ (i : Nat) row (j : Nat) v, rows[i]? = some row → row[j]? = some v → ∃ y, w.cell? (a.add (i * row.length + j)) = some y ∧ VRel w ok v y
theorem RowsAt.of_v {rows : List (List V)} {x : Value} (h : VRel w ok (.sl rows) x) : RowsAt w ok rows x := by
  cases h with
  | nil => exact .inl ⟨rfl, rfl⟩
  | emp a cap hmax => exact .inr ⟨a, cap, rfl, Nat.zero_le _, hmax, fun i row j v hi hj => by simp at hi⟩
  | sl _ b off cap cv hok hcap hmax hc hv => exact .inr ⟨⟨b, off, none⟩, cap, rfl, hcap, hmax, fun i row j v hi hj => ⟨_, by rw [Addr.add_lit]; exact hc i row j v hi hj, hv i row j v hi hj⟩⟩
theorem arr_rows {e : TypeId} {k : Nat} {rows : List (List V)} {x : Value} (h : BRel w ok μ (.arr e k rows) (.arr x)) : (x = .slice none 0 0 ∧ rows = []) ∨
    ∃ b off cap, x = .slice (some ⟨b, off, none⟩) rows.length cap ∧ rows.length ≤ cap ∧ cap ≤ maxLen ∧
    ∀ (i : Nat) row (j : Nat) v, rows[i]? = some row → row[j]? = some v → ∃ y, w.cell? ⟨b, off + (i * row.length + j), none⟩ = some y ∧ VRel w ok v y := by
  obtain ⟨xs, hown, hall, hk⟩ := h
  rcases hown.2 with ⟨rfl, hn⟩ | ⟨g, cap, cur, rfl, _, hg, hnc, hcm, hcs, htake⟩
  · exact .inl ⟨rfl, List.eq_nil_of_length_eq_zero hn⟩
  · refine .inr ⟨g, 0, cap, rfl, hnc, hcm, ?_⟩
    intro i row j v hi hj
    have hrl := hk row (List.mem_of_getElem? hi)
    have hjl : j < k := by
      rcases Nat.lt_or_ge j k with h' | h'
      · exact h'
      · rw [List.getElem?_eq_none (by omega)] at hj; cases hj
    have hf := flatten_get hk hi j hjl
    rw [hj] at hf
    obtain ⟨y, hy, hr⟩ := hall.get hf
    have hc := hown.cells (g := g) rfl (i * k + j) y hy
    rw [Addr.add_lit] at hc
    exact ⟨y, by rw [hrl]; simpa using hc, hr⟩
theorem rowsOf_rel {v : AV} {rows : List (List V)} {x : Value} (hr : HR w ok μ hp) (h : rowsOf hp v = some rows) (hv : AVRel w ok μ v x) : RowsAt w ok rows x := by
  unfold rowsOf at h
  split at h
  · cases h; cases hv with | one hc => cases hc with | v hc => exact .of_v hc
  · cases h; cases hv with | one hc => cases hc with | full hc => exact .of_v hc
  · cases h; cases hv with | one hc => cases hc with | nil => exact .inl ⟨rfl, rfl⟩
  · rename_i i
    split at h
    · rename_i e k rows' hb
      cases h
      obtain ⟨m, hm, hbr⟩ := hr.rel _ _ hb
      cases hv with | one hc => cases hc with | ar hμ _ =>
      rw [hμ] at hm; cases hm
      rcases arr_rows hbr with ⟨h1, h2⟩ | ⟨b, off, cap, h1, h2, h3, h4⟩
      · exact .inl ⟨h1, h2⟩
      · exact .inr ⟨⟨b, off, none⟩, cap, h1, h2, h3, fun i row j v hi hj => by rw [Addr.add_lit]; exact h4 i row j v hi hj⟩
    · cases h
  · cases h
theorem RowsAt.len {rows : List (List V)} {x : Value} (h : RowsAt w ok rows x) : ∃ a cap, x = .slice a rows.length cap := by
  rcases h with ⟨rfl, rfl⟩ | ⟨a, cap, rfl, _⟩
  · exact ⟨_, _, rfl⟩
  · exact ⟨_, _, rfl⟩
theorem run_convert_bytes_at {P : Program} (w : World) (src e : TypeId) (hs : P.underlying src = some (.slice e)) (he : P.underlying e = some (.int .u8)) (a : Addr) (len cap : Nat) (xs : List Int) (hlen : xs.length = len)
    (hcell : ∀ i, i < len → w.cell? (a.add i) = some (.int .u8 (xs.getD i 0))) :
    ∀ dst, P.underlying dst = some .string → (convert src dst (.slice (some a) len cap)).run P w = .ok (.string (strOfNums xs)) w := by
  intro dst hd
  have hl : (loadCells a len).run P w = .ok (xs.map (Value.int .u8)).toArray w := by
    have := run_loadCells_list (P := P) w a (xs.map (Value.int .u8)) (fun j v hj => by
      have hjl : j < xs.length := by
        rcases Nat.lt_or_ge j xs.length with h | h
        · exact h
        · simp [List.getElem?_eq_none (show (xs.map (Value.int .u8)).length ≤ j by simpa using h)] at hj
      rw [hcell j (by omega)]
      simp [List.getElem?_eq_getElem hjl] at hj
      subst hj
      simp [List.getD, List.getElem?_eq_getElem hjl])
    simpa [hlen] using this
  rw [run_convert_bytes_string w src dst e _ len cap hs he hd, run_bytesToString w _ len cap xs hl, foldl_push_bytes]
  simp [strOfNums, ByteArray.empty, ByteArray.emptyWithCapacity]
  rfl
theorem byteOf_spec {l : List V} {b : UInt8} (h : byteOf l = some b) : ∃ m, l = [.lit (.int .u8 m)] ∧ b = UInt8.ofNat m.toNat := by
  unfold byteOf at h
  split at h
  · cases h; exact ⟨_, rfl, rfl⟩
  · cases h
theorem bytesOf_spec : ∀ {rows : List (List V)} {l : List UInt8}, bytesOf rows = some l → ∃ ns : List Int, rows = ns.map (fun m => [.lit (.int .u8 m)]) ∧ l = ns.map fun m => UInt8.ofNat m.toNat
  | [], l, h => by cases h; exact ⟨[], rfl, rfl⟩
  | r :: rs, l, h => by
    unfold bytesOf at h
    split at h
    · rename_i b l' hb hl
      cases h
      obtain ⟨m, rfl, rfl⟩ := byteOf_spec hb
      obtain ⟨ns, rfl, rfl⟩ := bytesOf_spec hl
      exact ⟨m :: ns, rfl, rfl⟩
    · cases h
theorem conv_sound {src dst : TypeId} {v r : AV} {x : Value} (hr : HR w ok μ hp) (h : convAV P (tiOf P src) (tiOf P dst) hp v = some r) (hv : AVRel w ok μ v x) :
    ∃ y, (convert src dst x).run P w = .ok y w ∧ AVRel w ok μ r y := by
  unfold convAV at h
  split at h
  · rename_i sh k k' m hs hd
    cases h
    obtain rfl := lit_rel hv
    obtain ⟨i, hi, _⟩ := Option.map_eq_some_iff.1 hs
    obtain ⟨j, hj, hj'⟩ := Option.map_eq_some_iff.1 hd
    obtain ⟨d, hd1, _⟩ := (tiOf_spec hi).und
    have hd2 := (tiOf_spec hj).int hj'
    refine ⟨_, ?_, avlit rfl⟩
    simp [convert, run_underlying hd1, run_underlying hd2, Conv.intToInt]
  · rename_i s hs hd
    cases h
    obtain rfl := lit_rel hv
    obtain ⟨i, hi, hi'⟩ := Option.map_eq_some_iff.1 hs
    obtain ⟨j, hj, hj'⟩ := Option.map_eq_some_iff.1 hd
    have hd1 := (tiOf_spec hi).string hi'
    have hd2 := (tiOf_spec hj).string hj'
    refine ⟨_, ?_, avlit rfl⟩
    simp [convert, run_underlying hd1, run_underlying hd2]
  · rename_i e hs hd
    split at h
    · rename_i he
      obtain ⟨l, hl, rfl⟩ := Option.map_eq_some_iff.1 h
      obtain ⟨rows, hrows, hbytes⟩ := Option.bind_eq_some_iff.1 hl
      obtain ⟨ns, rfl, rfl⟩ := bytesOf_spec hbytes
      obtain ⟨i, hi, hi'⟩ := Option.map_eq_some_iff.1 hs
      obtain ⟨j, hj, hj'⟩ := Option.map_eq_some_iff.1 hd
      obtain ⟨ie, hie, hie'⟩ := Option.map_eq_some_iff.1 he
      have hd1 := (tiOf_spec hi).slice hi'
      have hd2 := (tiOf_spec hj).string hj'
      have hd3 := (tiOf_spec hie).int hie'
      rcases rowsOf_rel hr hrows hv with ⟨rfl, hn⟩ | ⟨ad, cap, rfl, _, _, hc⟩
      · have : ns = [] := by simpa using hn
        subst this
        exact ⟨_, run_convert_bytes_nil w src e hd1 hd3 0 0 dst hd2, avlit rfl⟩
      · refine ⟨_, run_convert_bytes_at w src e hd1 hd3 ad _ cap ns (by simp) ?_ dst hd2, avlit rfl⟩
        intro i' hi'
        have hi2 : i' < ns.length := by simpa using hi'
        obtain ⟨y, hy, hyr⟩ := hc i' [.lit (.int .u8 ns[i'])] 0 (.lit (.int .u8 ns[i'])) (by simp [List.getElem?_eq_getElem hi2]) rfl
        cases hyr with | lit _ _ =>
        simp only [List.length_cons, List.length_nil, Nat.mul_one, Nat.add_zero, Nat.zero_add] at hy
        rw [hy]; simp [List.getD, List.getElem?_eq_getElem hi2]
    · cases h
  · cases h
theorem fieldAddr_sound {t : TypeId} {i : TI} {f : Nat} {v r : AV} {x : Value} (hi : tiOf P t = some i) (h : fieldAddrAV i f v = some r) (hv : AVRel w ok μ v x) :
    ∃ y, (Instr.fieldAt t x f).run P w = .ok y w ∧ AVRel w ok μ r y := by
  unfold fieldAddrAV at h
  split at h
  · rename_i fs hfs
    obtain ⟨as, hu, hmap, hsz⟩ := (tiOf_spec hi).struct hfs
    split at h
    · rename_i ft o hf
      rw [hmap, List.getElem?_map] at hf
      obtain ⟨fd, hfd, he⟩ := Option.map_eq_some_iff.1 hf
      cases he
      obtain ⟨j, hj, hjz⟩ := hsz fd (List.mem_of_getElem? hfd)
      have hfa : as[f]? = some fd := by simpa using hfd
      have run : ∀ ad : Addr, (Instr.fieldAt t (.pointer (some ad)) f).run P w = .ok (.pointer (some (ad.add fd.offset))) w := by
        intro ad
        simp [Instr.fieldAt, run_underlying hu, hfa, Instr.sureAddr, fieldPlace, sizeOf, typeInfo, hj, hjz]
      split at h
      · cases h
        cases hv with | one hc => cases hc with | ptr _ hμ =>
        refine ⟨_, run _, ?_⟩
        rw [Addr.add_lit]; exact .one (.ptr _ hμ)
      · cases h
        cases hv with | one hc => cases hc with | eptr _ _ _ hμ =>
        refine ⟨_, run _, ?_⟩
        rw [Addr.add_lit, Nat.add_assoc]; exact .one (.eptr _ _ _ hμ)
      · cases h
        cases hv with | one hc => cases hc with | vptr b off cv hok hcell hrel =>
        refine ⟨_, run _, ?_⟩
        rw [Addr.add_lit]
        refine .one (.vptr b _ (fun j => cv (fd.offset + j)) hok ?_ ?_)
        · intro j v hj
          rw [List.getElem?_drop] at hj
          have := hcell _ v hj
          rwa [← Nat.add_assoc] at this
        · intro j v hj
          rw [List.getElem?_drop] at hj
          exact hrel _ v hj
      · cases h
    · cases h
  · cases h
theorem field_sound {t : TypeId} {i : TI} {f : Nat} {v r : AV} {x : Value} (hi : tiOf P t = some i) (h : fieldAV P i f v = some r) (hv : AVRel w ok μ v x) :
    ∃ y, (Instr.field t x f).run P w = .ok y w ∧ AVRel w ok μ r y := by
  unfold fieldAV at h
  split at h
  · rename_i fs hfs
    obtain ⟨as, hu, hmap, hsz⟩ := (tiOf_spec hi).struct hfs
    split at h
    · rename_i ft o hf
      rw [hmap, List.getElem?_map] at hf
      obtain ⟨fd, hfd, he⟩ := Option.map_eq_some_iff.1 hf
      cases he
      have hfa : as[f]? = some fd := by simpa using hfd
      split at h
      · rename_i cs j hj
        have hj2 := tiOf_spec hj
        cases hv with
        | agg hall =>
          rename_i xs
          have hall2 := (hall.drop fd.offset).take j.size
          obtain ⟨h1, h2, h3⟩ := mkAV_rel h hall2
          have hle : fd.offset + j.size ≤ xs.size := by
            rw [List.length_take, List.length_drop, Array.length_toList] at h3
            have : 0 < j.size ∨ j.size = 0 := by omega
            rcases this with h' | h'
            · omega
            · obtain ⟨q, hq, hqz⟩ := hsz fd (List.mem_of_getElem? hfd)
              obtain ⟨q', hq', hs'⟩ := hj2.size
              rw [hq] at hq'; cases hq'; omega
          simp only [Instr.field, Sem.run_bind, run_underlying hu, Result.andThen_ok, hfa, asAgg, Sem.run_pure]
          simp only [part, Sem.run_bind, hj2.und_agg, Result.andThen_ok]
          by_cases hg : j.isAgg = true
          · refine ⟨_, ?_, h1 hg⟩
            simp only [hg, if_true, Sem.run_bind, run_sizeOf hj2, Result.andThen_ok, Sem.run_pure]
            congr 2
            apply Array.ext'
            simp [List.take_drop]
          · have hg' : j.isAgg = false := by simpa using hg
            obtain ⟨y, hy, hyr⟩ := h2 hg'
            refine ⟨y, ?_, hyr⟩
            simp only [hg', Bool.false_eq_true, if_false]
            have hone : j.size = 1 := by rw [← h3, hy]; rfl
            have : xs[fd.offset]? = some y := by
              have hz : (((xs.toList.drop fd.offset).take j.size))[0]? = some y := by rw [hy]; rfl
              rw [List.getElem?_take, if_pos (by omega), List.getElem?_drop] at hz
              simpa using hz
            rw [this]; rfl
      · cases h
    · cases h
  · cases h
end
end Go.Proofs.AE
set_option linter.unusedVariables false
set_option linter.unusedSimpArgs false
namespace Go.Proofs.AE
open Go Go.RowKit
section
variable {P : Program} {n : Nat} {w : World} {ok : Nat → Prop} {μ : List MB} {hp : Hp}
theorem row_vptr {rows : List (List V)} {x : Value} {i : Nat} {row : List V} (h : VRel w ok (.sl rows) x) (hi : rows[i]? = some row) :
    ∃ b off cap, x = .slice (some ⟨b, off, none⟩) rows.length cap ∧ CRel w ok μ (.vptr row) (.pointer (some ⟨b, off + i * row.length, none⟩)) := by
  cases h with
  | nil => simp at hi
  | emp _ _ _ => simp at hi
  | sl _ b off cap cv hok hcap hmax hc hv =>
    refine ⟨b, off, cap, rfl, .vptr b _ (cv i) (hok ?_) ?_ fun j v hj => hv i row j v hi hj⟩
    · rintro rfl; simp at hi
    · intro j v hj
      rw [Nat.add_assoc]; exact hc i row j v hi hj
theorem lt_of_getElem? {α : Type} {l : List α} {i : Nat} {a : α} (h : l[i]? = some a) : i < l.length := by
  rcases Nat.lt_or_ge i l.length with h' | h'
  · exact h'
  · rw [List.getElem?_eq_none h'] at h; cases h
theorem run_indexAt_slice {t e : TypeId} {j : TI} (hu : P.underlying t = some (.slice e)) (hj : tiOf P e = some j) (ad : Addr) (len cap : Nat) (k : IntKind) (m : Int) (h0 : 0 ≤ m) (h1 : m < len) :
    (Instr.indexAt t (.slice (some ad) len cap) (.int k m)).run P w = .ok (.pointer (some (ad.add (m.toNat * j.size)))) w := by
  have hs := run_sizeOf (tiOf_spec hj) w
  simp [Instr.indexAt, asIntOf, run_underlying hu, h0, h1, hs]
theorem indexAddr_sound {t : TypeId} {i : TI} {v r : AV} {p : Prop} {x y : Value} {m : Int} (hr : HR w ok μ hp) (hi : tiOf P t = some i) (h : indexAddrAV P i hp v m = some (p, r)) (hp' : p)
    (hv : AVRel w ok μ v x) {k : IntKind} (hy : y = .int k m) : ∃ z, (Instr.indexAt t x y).run P w = .ok z w ∧ AVRel w ok μ r z := by
  subst hy
  unfold indexAddrAV at h
  split at h
  · rename_i e he
    have hu := (tiOf_spec hi).slice he
    split at h
    · rename_i j hj
      split at h
      · rename_i b
        split at h
        · rename_i e' k' rows hb
          split at h
          · rename_i hk
            cases h
            obtain ⟨mb, hm, hbr⟩ := hr.rel _ _ hb
            cases hv with | one hc => cases hc with | ar hμ _ =>
            rw [hμ] at hm; cases hm
            obtain ⟨xs, hown, hall, hkk⟩ := hbr
            rcases hown.2 with ⟨rfl, hn⟩ | ⟨g, cap, cur, rfl, _, hg, hnc, hcm, hcs, htake⟩
            · omega
            · refine ⟨_, run_indexAt_slice hu hj _ _ _ k m hp'.1 hp'.2, ?_⟩
              rw [Addr.add_lit, ← hk]
              have := CRel.eptr (w := w) (ok := ok) m.toNat k' 0 hμ
              simpa using AVRel.one this
          · cases h
        · cases h
      · rename_i b k1 off len cc
        split at h
        · rename_i e' k' c' rows hb
          split at h
          · rename_i hk
            obtain ⟨hk, rfl⟩ := hk
            cases h
            obtain ⟨h0, h1, h2⟩ := hp'
            obtain ⟨mb, hm, hbr⟩ := hr.rel _ _ hb
            cases hv with | one hc => cases hc with | sub _ _ _ _ hμ hs =>
            rw [hμ] at hm; cases hm
            obtain ⟨_, _, hbr⟩ := hbr
            rcases hbr with ⟨rfl, rfl, rfl⟩ | ⟨g, n', cur, rfl, hg, hrc, hcm, hcs, hall⟩
            · simp at h2; omega
            · cases hs with | «at» ho =>
              have ho' := ho (.inl (by omega))
              subst ho'
              refine ⟨_, run_indexAt_slice hu hj _ _ _ k m h0 h1, ?_⟩
              rw [Addr.add_lit, ← hk]
              have := CRel.eptr (w := w) (ok := ok) (off + m.toNat) k' 0 hμ
              rw [Nat.add_mul] at this
              simpa using AVRel.one this
          · cases h
        · cases h
      · rename_i rows
        split at h
        · rename_i row hrow
          split at h
          · rename_i hrl
            cases h
            cases hv with | one hc => cases hc with | v hc =>
            obtain ⟨b, off, cap, rfl, hc'⟩ := row_vptr (μ := μ) hc hrow
            have hlt : m < rows.length := by have := lt_of_getElem? hrow; omega
            refine ⟨_, run_indexAt_slice hu hj _ _ _ k m hp' hlt, ?_⟩
            rw [Addr.add_lit, ← hrl]; exact .one hc'
          · cases h
        · cases h
      · rename_i rows
        split at h
        · rename_i row hrow
          split at h
          · rename_i hrl
            cases h
            cases hv with | one hc => cases hc with | full hc =>
            obtain ⟨b, off, cap, he', hc'⟩ := row_vptr (μ := μ) hc hrow
            cases he'
            have hlt : m < rows.length := by have := lt_of_getElem? hrow; omega
            refine ⟨_, run_indexAt_slice hu hj _ _ _ k m hp' hlt, ?_⟩
            rw [Addr.add_lit, ← hrl]; exact .one hc'
          · cases h
        · cases h
      · cases h
    · cases h
  · rename_i q e he
    have hu := (tiOf_spec hi).array he
    split at h
    · rename_i j hj
      have hs := run_sizeOf (tiOf_spec hj) w
      have run : ∀ ad : Addr, 0 ≤ m → m < q → (Instr.indexAt t (.pointer (some ad)) (.int k m)).run P w = .ok (.pointer (some (ad.add (m.toNat * j.size)))) w := by
        intro ad h0 h1
        simp [Instr.indexAt, asIntOf, run_underlying hu, Instr.sureAddr, h0, h1, hs]
      split at h
      · cases h
        cases hv with | one hc => cases hc with | ptr _ hμ =>
        refine ⟨_, run _ hp'.1 hp'.2, ?_⟩
        rw [Addr.add_lit]; exact .one (.ptr _ hμ)
      · cases h
        cases hv with | one hc => cases hc with | vptr b off cv hok hcell hrel =>
        refine ⟨_, run _ hp'.1 hp'.2, ?_⟩
        rw [Addr.add_lit]
        refine .one (.vptr b _ (fun z => cv (m.toNat * j.size + z)) hok ?_ ?_)
        · intro z v hz
          rw [List.getElem?_drop] at hz
          have := hcell _ v hz
          rwa [← Nat.add_assoc] at this
        · intro z v hz
          rw [List.getElem?_drop] at hz
          exact hrel _ v hz
      · cases h
    · cases h
  · cases h
theorem index_sound {t : TypeId} {i : TI} {v r : AV} {p : Prop} {x y : Value} {m : Int} (hi : tiOf P t = some i) (h : indexAV P i v m = some (p, r)) (hp' : p)
    (hv : AVRel w ok μ v x) {k : IntKind} (hy : y = .int k m) : ∃ z, (Instr.index t x y).run P w = .ok z w ∧ AVRel w ok μ r z := by
  subst hy
  unfold indexAV at h
  split at h
  · rename_i s hs
    cases h
    obtain rfl := lit_rel hv
    have hu := (tiOf_spec hi).string hs
    obtain ⟨h0, h1⟩ := hp'
    have hlt : m.toNat < s.size := by omega
    refine ⟨_, ?_, avlit rfl⟩
    have hx : s[m.toNat]? = some (s[m.toNat]'hlt) := by simp [hlt]
    simp only [Instr.index, asIntOf, Sem.run_bind, Sem.run_pure, Result.andThen_ok, run_underlying hu, h0, if_true, hx]
    congr 2
    unfold byteAt
    rw [List.getD_eq_getElem?_getD]
    have : s.data.toList[m.toNat]? = some (s[m.toNat]'hlt) := by
      rw [List.getElem?_eq_getElem (by simpa using hlt)]; rfl
    rw [this]; rfl
  · rename_i q e cs hs
    have hu := (tiOf_spec hi).array hs
    split at h
    · rename_i j hj
      obtain ⟨r', hr', he⟩ := Option.map_eq_some_iff.1 h
      cases he
      obtain ⟨h0, h1⟩ := hp'
      have hj2 := tiOf_spec hj
      cases hv with
      | agg hall =>
        rename_i xs
        have hall2 := (hall.drop (m.toNat * j.size)).take j.size
        obtain ⟨g1, g2, g3⟩ := mkAV_rel hr' hall2
        simp only [Instr.index, asIntOf, Sem.run_bind, Sem.run_pure, Result.andThen_ok, run_underlying hu, h0, h1, true_and, if_true, run_sizeOf hj2]
        simp only [part, Sem.run_bind, hj2.und_agg, Result.andThen_ok]
        by_cases hg : j.isAgg = true
        · refine ⟨_, ?_, g1 hg⟩
          simp only [hg, if_true, Sem.run_bind, run_sizeOf hj2, Result.andThen_ok, Sem.run_pure]
          congr 2
          apply Array.ext'
          simp [List.take_drop]
        · have hg' : j.isAgg = false := by simpa using hg
          obtain ⟨y, hy, hyr⟩ := g2 hg'
          refine ⟨y, ?_, hyr⟩
          simp only [hg', Bool.false_eq_true, if_false]
          have hone : j.size = 1 := by rw [← g3, hy]; rfl
          have : xs[m.toNat * j.size]? = some y := by
            have hz : (((xs.toList.drop (m.toNat * j.size)).take j.size))[0]? = some y := by rw [hy]; rfl
            rw [List.getElem?_take, if_pos (by omega), List.getElem?_drop] at hz
            simpa using hz
          rw [this]; rfl
    · cases h
  · cases h
theorem bound_cases {d : Int} {ov : Option AV} {ox : Option Value} {l : Int} (h : boundAV d ov = some l) (hv : ∀ v, ov = some v → ∃ x, ox = some x ∧ AVRel w ok μ v x) (hn : ov = none → ox = none) :
    (ox = none ∧ l = d) ∨ ∃ k, ox = some (.int k l) := by
  cases ov with
  | none => simp [boundAV] at h; exact .inl ⟨hn rfl, h.symm⟩
  | some v =>
    obtain ⟨x, hx, hr⟩ := hv v rfl
    obtain ⟨k, rfl⟩ := intOfAV_rel (by simpa [boundAV] using h) hr
    exact .inr ⟨k, hx⟩
theorem sliced_rel {rows : List (List V)} {a : Option Addr} {cap l h m k : Nat} (hr : VRel w ok (.sl rows) (.slice a rows.length cap)) (hk : UL k rows) (h1 : l ≤ h) (h2 : h ≤ rows.length) (h3 : h ≤ m) (h4 : m ≤ cap) :
    VRel w ok (.sl ((rows.take h).drop l)) (sliced a l h m k) := by
  have hlen : ((rows.take h).drop l).length = h - l := by simp; omega
  generalize hx : Value.slice a rows.length cap = x at hr
  cases hr with
  | nil =>
    cases hx
    have : h = 0 := by simpa using h2
    subst this
    have : l = 0 := by omega
    subst this
    have : m = 0 := by omega
    subst this
    simpa [sliced] using VRel.nil
  | emp ad cap' hmax =>
    cases hx
    have : h = 0 := by simpa using h2
    subst this
    have : l = 0 := by omega
    subst this
    unfold sliced
    split
    · exact .emp _ _ (by unfold maxLen at *; omega)
    · exact .emp _ _ (by unfold maxLen at *; omega)
  | sl _ b off cap' cv hok hcap hmax hc hv =>
    cases hx
    have key : ∀ off' : Nat, ((h - l) ≠ 0 → off' = off + l * k) → VRel w ok (.sl ((rows.take h).drop l)) (.slice (some ⟨b, off', none⟩) (h - l) (m - l)) := by
      intro off' hoff
      have := VRel.sl (w := w) (ok := ok) ((rows.take h).drop l) b off' (m - l) (fun i j => cv (l + i) j) ?_ (by rw [hlen]; omega) (by unfold maxLen at *; omega) ?_ ?_
      · rwa [hlen] at this
      · intro hne; apply hok; rintro rfl; simp at hne
      · intro i row j v hi hj
        rw [List.getElem?_drop, List.getElem?_take] at hi
        split at hi
        · rename_i hlt
          have hrl := hk row (List.mem_of_getElem? hi)
          have := hc (l + i) row j v hi hj
          rw [hoff (by omega)]
          rw [hrl] at this ⊢
          rw [Nat.add_mul, Nat.add_assoc] at this
          rw [Nat.add_assoc off]; simpa [Nat.add_assoc] using this
        · cases hi
      · intro i row j v hi hj
        rw [List.getElem?_drop, List.getElem?_take] at hi
        split at hi
        · exact hv (l + i) row j v hi hj
        · cases hi
    unfold sliced
    split
    · rename_i hml
      exact key off (fun hne => by omega)
    · simp only [Option.map_some, Addr.add_lit]
      exact key _ fun _ => rfl
theorem run_sliceBound' (k : IntKind) (i : Int) (y : Nat) (code : BoundsCode) (h0 : 0 ≤ i) (h1 : i ≤ y) : (Instr.sliceBound (.int k i) y code).run P w = .ok i.toNat w := run_sliceBound (P := P) w k i y code h0 h1
theorem slice_rows_sound {t e : TypeId} {j : TI} {rows : List (List V)} {a : Option Addr} {cap : Nat} {lo hi mx : Option AV} {p : Prop} {r : AV} {xl xh xm : Option Value}
    (hu : P.underlying t = some (.slice e)) (hj : tiOf P e = some j) (hr : VRel w ok (.sl rows) (.slice a rows.length cap)) (h : sliceRows j.size rows lo hi mx = some (p, r)) (hp' : p)
    (vl : ∀ v, lo = some v → ∃ x, xl = some x ∧ AVRel w ok μ v x) (nl : lo = none → xl = none)
    (vh : ∀ v, hi = some v → ∃ x, xh = some x ∧ AVRel w ok μ v x) (nh : hi = none → xh = none)
    (vm : ∀ v, mx = some v → ∃ x, xm = some x ∧ AVRel w ok μ v x) (nm : mx = none → xm = none) :
    ∃ z, (Instr.sliceAt t (.slice a rows.length cap) xl xh xm).run P w = .ok z w ∧ AVRel w ok μ r z := by
  have hcap : rows.length ≤ cap := by
    generalize hx : Value.slice a rows.length cap = x at hr
    cases hr <;> cases hx
    · exact Nat.le_refl _
    · exact Nat.zero_le _
    · assumption
  have hs := run_sizeOf (tiOf_spec hj) w
  have he : P.elem t = e := by simp [Program.elem, hu]
  have hu' : P.underlying t = some (.slice (P.elem t)) := by rw [he]; exact hu
  rw [run_sliceAt_slice w t _ _ _ _ hu']
  have main : ∀ l h m : Nat, (Instr.sliceBounds true rows.length cap xl xh xm).run P w = .ok (l, h, m) w → (Instr.slice t (.slice a rows.length cap) xl xh xm).run P w = .ok (sliced a l h m j.size) w := by
    intro l h m hb
    rw [run_slice_any w t a rows.length cap hu', hb, he]
    simp [hs]
  unfold sliceRows at h
  split at h
  · rename_i l hh hl hhh
    have bl : ∀ (K : Nat → Sem (Nat × Nat × Nat)) code, ∀ y : Nat, l ≤ y → 0 ≤ l → (match xl with | some v => (do let q ← Instr.sliceBound v y code; K q) | none => (do let q ← Pure.pure 0; K q) : Sem (Nat × Nat × Nat)).run P w = (K l.toNat).run P w := by
      intro K code y h1 h0
      rcases bound_cases hl vl nl with ⟨rfl, rfl⟩ | ⟨kl, rfl⟩
      · rfl
      · simp only [Sem.run_bind, run_sliceBound' (P := P) (w := w) kl l y code h0 h1, Result.andThen_ok]
    have bh := bound_cases hhh vh nh
    split at h
    · cases h
      obtain rfl := nm rfl
      obtain ⟨hul, h0, h1, h2⟩ := hp'
      refine ⟨_, main _ _ cap ?_, .one (.v (sliced_rel hr hul (l := l.toNat) (h := hh.toNat) (by omega) (by omega) (by omega) (Nat.le_refl _)))⟩
      rcases bh with ⟨rfl, rfl⟩ | ⟨kh, rfl⟩
      · simp only [Instr.sliceBounds, Sem.run_bind, Sem.run_pure, Result.andThen_ok, Option.isSome_none, Bool.false_eq_true, if_false, Int.toNat_natCast]
        exact bl _ .sliceB rows.length h1 h0
      · simp only [Instr.sliceBounds, Sem.run_bind, Sem.run_pure, Result.andThen_ok, Option.isSome_none, Bool.false_eq_true, if_false, if_true, run_sliceBound' (P := P) (w := w) kh hh cap .sliceAcap (by omega) (by omega)]
        exact bl _ .sliceB hh.toNat (by omega) h0
    · rename_i m
      split at h
      · rename_i mm hv' hm1
        cases h
        obtain ⟨xm', rfl, hmr⟩ := vm _ rfl
        obtain ⟨km, rfl⟩ := intOfAV_rel hm1 hmr
        obtain ⟨hul, h0, h1, rfl, h2⟩ := hp'
        have hfull : ((rows.take hh.toNat).drop l.toNat).length = hh.toNat - l.toNat := by simp; omega
        have hrel := sliced_rel (m := hh.toNat) hr hul (l := l.toNat) (h := hh.toNat) (by omega) (by omega) (Nat.le_refl _) (by omega)
        have hfin : CRel w ok μ (.full ((rows.take hh.toNat).drop l.toNat)) (sliced a l.toNat hh.toNat hh.toNat j.size) := by
          unfold sliced at hrel ⊢
          have := @CRel.full w ok μ ((rows.take hh.toNat).drop l.toNat) _ (by rw [hfull]; exact hrel)
          rwa [hfull] at this
        refine ⟨_, main _ _ _ ?_, .one hfin⟩
        rcases bh with ⟨rfl, _⟩ | ⟨kh, rfl⟩
        · obtain ⟨_, hx, _⟩ := vh _ rfl; cases hx
        · simp only [Instr.sliceBounds, Sem.run_bind, Result.andThen_ok, Option.isSome_some, if_true, run_sliceBound' (P := P) (w := w) km hh cap .slice3Acap (by omega) (by omega), run_sliceBound' (P := P) (w := w) kh hh hh.toNat .slice3B (by omega) (by omega)]
          exact bl _ .slice3C hh.toNat (by omega) h0
      · cases h
  · cases h
theorem run_slice_J {t e : TypeId} {j : TI} {a : Option Addr} {len cap : Nat} {lo hi : Option AV} {xl xh xm : Option Value} {l h : Int} (hu : P.underlying t = some (.slice e)) (hj : tiOf P e = some j)
    (vl : ∀ v, lo = some v → ∃ x, xl = some x ∧ AVRel w ok μ v x) (nl : lo = none → xl = none)
    (vh : ∀ v, hi = some v → ∃ x, xh = some x ∧ AVRel w ok μ v x) (nh : hi = none → xh = none)
    (hl : boundAV 0 lo = some l) (hh : boundAV len hi = some h) (h0 : 0 ≤ l) (h1 : l ≤ h) :
    (xm = none → h ≤ cap → (Instr.sliceAt t (.slice a len cap) xl xh xm).run P w = .ok (sliced a l.toNat h.toNat cap j.size) w) ∧
    (∀ km m, xm = some (.int km m) → (∃ v, hi = some v) → h ≤ m → m ≤ cap → (Instr.sliceAt t (.slice a len cap) xl xh xm).run P w = .ok (sliced a l.toNat h.toNat m.toNat j.size) w) := by
  have hs := run_sizeOf (tiOf_spec hj) w
  have he : P.elem t = e := by simp [Program.elem, hu]
  have hu' : P.underlying t = some (.slice (P.elem t)) := by rw [he]; exact hu
  have main : ∀ l h m : Nat, (Instr.sliceBounds true len cap xl xh xm).run P w = .ok (l, h, m) w → (Instr.slice t (.slice a len cap) xl xh xm).run P w = .ok (sliced a l h m j.size) w := by
    intro l h m hb
    rw [run_slice_any w t a len cap hu', hb, he]
    simp [hs]
  have bl : ∀ (K : Nat → Sem (Nat × Nat × Nat)) code, ∀ y : Nat, l ≤ y → 0 ≤ l → (match xl with | some v => (do let q ← Instr.sliceBound v y code; K q) | none => (do let q ← Pure.pure 0; K q) : Sem (Nat × Nat × Nat)).run P w = (K l.toNat).run P w := by
    intro K code y h1 h0
    rcases bound_cases hl vl nl with ⟨rfl, rfl⟩ | ⟨kl, rfl⟩
    · rfl
    · simp only [Sem.run_bind, run_sliceBound' (P := P) (w := w) kl l y code h0 h1, Result.andThen_ok]
  have bh := bound_cases hh vh nh
  rw [run_sliceAt_slice w t _ _ _ _ hu']
  refine ⟨fun hxm h2 => ?_, fun km m hxm hv h2 h3 => ?_⟩
  · subst hxm
    refine main _ _ cap ?_
    rcases bh with ⟨rfl, rfl⟩ | ⟨kh, rfl⟩
    · simp only [Instr.sliceBounds, Sem.run_bind, Sem.run_pure, Result.andThen_ok, Option.isSome_none, Bool.false_eq_true, if_false, Int.toNat_natCast]
      exact bl _ .sliceB len h1 h0
    · simp only [Instr.sliceBounds, Sem.run_bind, Sem.run_pure, Result.andThen_ok, Option.isSome_none, Bool.false_eq_true, if_false, if_true, run_sliceBound' (P := P) (w := w) kh h cap .sliceAcap (by omega) (by omega)]
      exact bl _ .sliceB h.toNat (by omega) h0
  · subst hxm
    refine main _ _ _ ?_
    rcases bh with ⟨rfl, _⟩ | ⟨kh, rfl⟩
    · obtain ⟨v, hv⟩ := hv; obtain ⟨_, hx, _⟩ := vh v hv; cases hx
    · simp only [Instr.sliceBounds, Sem.run_bind, Result.andThen_ok, Option.isSome_some, if_true, run_sliceBound' (P := P) (w := w) km m cap .slice3Acap (by omega) (by omega), run_sliceBound' (P := P) (w := w) kh h m.toNat .slice3B (by omega) (by omega)]
      exact bl _ .slice3C h.toNat (by omega) h0
theorem sub_slice {x y : Value} {k off len c : Nat} {l h : Nat} {a : Option Addr} {n cap : Nat} (hs : SubOf k off len c x y) (hy : y = .slice a n cap) (h1 : l ≤ h) (h2 : off + h ≤ c) : SubOf k (off + l) (h - l) c x (sliced a l h cap k) := by
  cases hs with
  | nil h0 hc =>
    cases hy
    have : h = 0 := by omega
    subst this
    have : l = 0 := by omega
    subst this
    have : c = 0 := by omega
    simpa [sliced] using SubOf.nil (k := k) (off := off) (len := 0) rfl this
  | «at» ho =>
    rename_i g n' o
    cases hy
    unfold sliced
    split
    · rename_i hc
      rw [show c - off - l = c - (off + l) by omega]
      refine .at fun hh => ?_
      rcases hh with hh | hh
      · omega
      · have h3 : off = 0 := by omega
        have h4 : l = 0 := by omega
        subst h3; subst h4
        simpa using ho (.inr rfl)
    · simp only [Option.map_some, Addr.add_lit]
      rw [show c - off - l = c - (off + l) by omega]
      refine .at fun hh => ?_
      have := ho (by omega)
      rw [this, Nat.add_mul]
theorem sub_len {k off len c : Nat} {x y : Value} (hs : SubOf k off len c x y) : ∃ a, y = .slice a len (c - off) := by
  cases hs with
  | nil h hc => subst h; subst hc; exact ⟨none, by simp⟩
  | «at» h => exact ⟨_, rfl⟩
theorem slice_sub_sound {t e : TypeId} {j : TI} {i off len c : Nat} {x : Value} {lo hi mx : Option AV} {p : Prop} {r : AV} {xl xh xm : Option Value}
    (hu : P.underlying t = some (.slice e)) (hj : tiOf P e = some j) (hr : CRel w ok μ (.sub i j.size off len c) x) (h : sliceSub i j.size off len c lo hi mx = some (p, r)) (hp' : p)
    (vl : ∀ v, lo = some v → ∃ x, xl = some x ∧ AVRel w ok μ v x) (nl : lo = none → xl = none)
    (vh : ∀ v, hi = some v → ∃ x, xh = some x ∧ AVRel w ok μ v x) (nh : hi = none → xh = none)
    (vm : ∀ v, mx = some v → ∃ x, xm = some x ∧ AVRel w ok μ v x) (nm : mx = none → xm = none) :
    ∃ z, (Instr.sliceAt t x xl xh xm).run P w = .ok z w ∧ AVRel w ok μ r z := by
  cases hr with | sub _ _ _ _ hμ hs =>
  obtain ⟨a, rfl⟩ := sub_len hs
  unfold sliceSub at h
  split at h
  · rename_i l hh hl hhb
    split at h
    · cases h
      obtain rfl := nm rfl
      obtain ⟨h0, h1, h2⟩ := hp'
      obtain ⟨r1, _⟩ := run_slice_J (a := a) (cap := c - off) hu hj vl nl vh nh hl hhb h0 h1 (xm := none)
      exact ⟨_, r1 rfl (by omega), .one (.sub _ _ _ _ hμ (sub_slice hs rfl (by omega) (by omega)))⟩
    · rename_i mv
      split at h
      · rename_i mm hv' hm1
        cases h
        obtain ⟨xm', rfl, hmr⟩ := vm _ rfl
        obtain ⟨km, rfl⟩ := intOfAV_rel hm1 hmr
        obtain ⟨h0, h1, h2, h3⟩ := hp'
        obtain ⟨_, r2⟩ := run_slice_J (a := a) (cap := c - off) hu hj vl nl vh nh hl hhb h0 h1 (xm := some (.int km mm))
        exact ⟨_, r2 km mm rfl ⟨_, rfl⟩ h2 (by omega), .any⟩
      · cases h
  · cases h
end
end Go.Proofs.AE
set_option linter.unusedVariables false
set_option linter.unusedSimpArgs false
namespace Go.Proofs.AE
open Go Go.RowKit
section
variable {P : Program} {w w' : World} {ok ok' : Nat → Prop} {μ μ' : List MB} {hp hp' : Hp}
theorem find_spec {s : ByteArray} : ∀ {es : List (ByteArray × Value)} {l : List MapEntry} (i : Nat), l.map (fun e => (e.key, e.val)) = es.map (fun e => (Value.string e.1, e.2)) →
    (mpFind es s = none ∧ Instr.findNow .string (.string s) l i = some none ∧ mpPut es s = (fun x => es ++ [(s, x)]) ∧ mpDel es s = es) ∨
    ∃ j e, mpFind es s = some e.val ∧ Instr.findNow .string (.string s) l i = some (some (i + j, e.val)) ∧ l[j]? = some e ∧ e.key = .string s ∧ (∀ x, mpPut es s x = es.set j (s, x)) ∧ mpDel es s = es.eraseIdx j
  | [], [], i, _ => .inl ⟨rfl, rfl, rfl, rfl⟩
  | [], _ :: _, _, h => by simp at h
  | _ :: _, [], _, h => by simp at h
  | (a, v) :: es, e :: l, i, h => by
    simp only [List.map_cons, List.cons.injEq, Prod.mk.injEq] at h
    obtain ⟨⟨h1, h2⟩, h3⟩ := h
    by_cases ha : s = a
    · subst ha
      refine .inr ⟨0, e, by simp [mpFind, h2], ?_, rfl, h1, fun x => by simp [mpPut], by simp [mpDel]⟩
      have : (s == s) = true := (MapKept.bytes_beq s s).2 rfl
      simp [Instr.findNow, Instr.sameNow, h1, this]
    · have hb : (s == a) = false := by
        cases hq : s == a with
        | false => rfl
        | true => exact absurd ((MapKept.bytes_beq s a).1 hq) ha
      rcases find_spec (s := s) (es := es) (l := l) (i + 1) h3 with ⟨g1, g2, g3, g4⟩ | ⟨j, e', g1, g2, g3, g4, g5, g6⟩
      · refine .inl ⟨by simp [mpFind, ha, g1], by simp [Instr.findNow, Instr.sameNow, h1, hb, g2], ?_, by simp [mpDel, ha, g4]⟩
        funext x
        simp [mpPut, ha, g3]
      · exact .inr ⟨j + 1, e', by simp [mpFind, ha, g1], by simp [Instr.findNow, Instr.sameNow, h1, hb, g2]; omega, by simpa using g3, g4, fun x => by simp [mpPut, ha, g5], by simp [mpDel, ha, g6]⟩
theorem find_val {es : List (ByteArray × Value)} {s : ByteArray} {v : Value} (h : mpFind es s = some v) : ∃ e ∈ es, e.2 = v := by
  induction es with
  | nil => cases h
  | cons a r ih =>
    obtain ⟨k, u⟩ := a
    unfold mpFind at h
    split at h
    · cases h; exact ⟨_, List.mem_cons_self .., rfl⟩
    · obtain ⟨e, h1, h2⟩ := ih h
      exact ⟨e, List.mem_cons_of_mem _ h1, h2⟩
theorem mp_at (hr : HR w ok μ hp) {i : Nat} {v : AV} {x : Value} {t : TypeId} {es : List (ByteArray × Value)} (hv : AVRel w ok μ v x) (hx : v = .one (.mp i)) (hi : hp[i]? = some (some (.mp t es))) :
    ∃ b ms clock, x = .map (some b) ∧ μ[i]? = some (.box b) ∧ w.heap[b]? = some (.map ms clock) ∧ ms.toList.map (fun e => (e.key, e.val)) = es.map (fun e => (Value.string e.1, e.2)) ∧ ∀ e ∈ es, e.2.oneCell' = true := by
  subst hx
  obtain ⟨m, hμ, hb⟩ := hr.rel _ _ hi
  cases hv with | one hc =>
  cases hc with | mp hc =>
  rw [hc] at hμ; cases hμ
  obtain ⟨ms, clock, g1, g2, g3⟩ := hb
  exact ⟨_, ms, clock, rfl, hc, g1, g2, g3⟩
theorem look_sound {t : TypeId} {v vk r : AV} {x xk : Value} {okk : Bool} {p : Prop} (hr : HR w ok μ hp) (hv : AVRel w ok μ v x) (hvk : AVRel w ok μ vk xk) (h : mpLook P hp t v vk okk = some (p, r)) :
    ∃ y, (Instr.lookup t x xk okk).run P w = .ok y w ∧ AVRel w ok μ r y := by
  have hk : ∀ s : ByteArray, MapKept.IsKey .string (.string s) := fun _ => trivial
  unfold mpLook at h
  split at h
  · rename_i z i s he
    split at h
    · rename_i u es hi
      cases h
      obtain ⟨kt, e, ti, hu, hks, hti, hz, hzo⟩ := mapTy_spec he
      have hkv := lit_rel hvk
      obtain ⟨b, ms, clock, hxv, hμ, g1, g2, g3⟩ := mp_at hr hv rfl hi
      have hzv : (zeroValue e).run P w = .ok z w := by simp [zeroValue, typeInfo, hti, hz]
      rcases find_spec (s := s) 0 g2 with ⟨f1, f2, _, _⟩ | ⟨q, e', f1, f2, _, _, _, _⟩
      · refine ⟨if okk = true then .tuple #[z, .bool false] else z, ?_, ?_⟩
        · simp [Instr.lookup, hxv, hkv, run_underlying hu, MapKept.run_getObj_map g1, MapKept.run_checkKey hks (hk s), MapKept.run_findKey hks f2, hzv, Result.andThen]
        · rw [f1]
          cases okk with
          | true => exact .tup (.cons (avlit hzo) (.cons (avlit rfl) .nil))
          | false => exact avlit hzo
      · have hvo : e'.val.oneCell' = true := by
          obtain ⟨e1, h1, h2⟩ := find_val f1
          rw [← h2]; exact g3 e1 h1
        refine ⟨if okk = true then .tuple #[e'.val, .bool true] else e'.val, ?_, ?_⟩
        · simp [Instr.lookup, hxv, hkv, run_underlying hu, MapKept.run_getObj_map g1, MapKept.run_checkKey hks (hk s), MapKept.run_findKey hks f2, Result.andThen]
        · rw [f1]
          cases okk with
          | true => exact .tup (.cons (avlit hvo) (.cons (avlit rfl) .nil))
          | false => exact avlit hvo
    · cases h
  · cases h
end
end Go.Proofs.AE
set_option linter.unusedVariables false
set_option linter.unusedSimpArgs false
namespace Go.Proofs.AE
open Go Go.RowKit
section
variable {P : Program} {n : Nat} {w : World} {ok : Nat → Prop} {μ : List MB} {hp : Hp}
theorem zV_rel {x : Value} {v : V} (h : zV x = some v) : VRel w ok v x := by
  unfold zV at h
  split at h <;> cases h <;> first | exact .nil | exact .lit _ rfl
theorem zVs_rel : ∀ {xs : List Value} {vs : List V}, zVs xs = some vs → All2 (VRel w ok) vs xs
  | [], vs, h => by cases h; exact .nil
  | x :: xs, vs, h => by
    unfold zVs at h
    split at h
    · rename_i a b ha hb; cases h; exact .cons (zV_rel ha) (zVs_rel hb)
    · cases h
theorem zC_rel {x : Value} {v : V} (h : zV x = some v) : CRel w ok μ (vC v) x := by
  unfold zV at h
  split at h <;> cases h <;> first | exact .nil | exact .v (.lit _ rfl)
theorem zeroC_rel : ∀ {xs : List Value} {vs : List V}, zVs xs = some vs → All2 (CRel w ok μ) (vs.map vC) xs
  | [], vs, h => by cases h; exact .nil
  | x :: xs, vs, h => by
    unfold zVs at h
    split at h
    · rename_i a b ha hb; cases h; exact .cons (zC_rel ha) (zeroC_rel hb)
    · cases h
theorem cellsAV_rel {v : AV} {cs : List C} {x : Value} (h : cellsAV v = some cs) (hv : AVRel w ok μ v x) : All2 (CRel w ok μ) cs x.cells.toList := by
  unfold cellsAV at h
  split at h
  · cases h; cases hv with | one hc =>
    have : x.cells = #[x] := by have := hc.oneCell; cases x <;> simp_all [Value.cells, Value.oneCell']
    rw [this]; exact .cons hc .nil
  · cases h; cases hv with | agg hall => exact hall
  · cases h
theorem foldl_set (xs : List Value) : ∀ (off k : Nat) (cs : Array Value), off + k + xs.length ≤ cs.size →
    ((xs.zipIdx k).foldl (fun cs (c, j) => cs.setIfInBounds (off + j) c) cs).toList = cs.toList.take (off + k) ++ xs ++ cs.toList.drop (off + k + xs.length) := by
  induction xs with
  | nil => intro off k cs _; simp
  | cons x xs ih =>
    intro off k cs h
    simp only [List.zipIdx_cons, List.foldl_cons, List.length_cons] at h ⊢
    rw [show off + k + (xs.length + 1) = off + (k + 1) + xs.length by omega] at *
    rw [ih off (k + 1) _ (by simpa using h)]
    have hlt : off + k < cs.toList.length := by simp; omega
    simp only [Array.toList_setIfInBounds]
    apply List.ext_getElem?
    intro i
    simp only [List.append_assoc, List.getElem?_append, List.length_take, List.length_set, List.getElem?_take, List.getElem?_set, List.getElem?_drop, List.length_cons, List.getElem?_cons, Array.length_toList]
    have hsz : off + (k + 1) ≤ cs.size := by omega
    rw [Nat.min_eq_left hsz, Nat.min_eq_left (by omega : off + k ≤ cs.size)]
    by_cases h1 : i < off + k
    · rw [if_pos (by omega), if_pos (by omega), if_neg (by omega), if_pos h1, if_pos h1]
    · by_cases h2 : i = off + k
      · subst h2
        rw [if_pos (by omega), if_pos (by omega), if_pos rfl, if_pos (by omega), if_neg (by omega), if_pos (by omega), if_pos (by omega)]
      · rw [if_neg (by omega), if_neg h1]
        by_cases h3 : i - (off + (k + 1)) < xs.length
        · rw [if_pos h3, if_pos (by omega), if_neg (by omega), show i - (off + k) - 1 = i - (off + (k + 1)) by omega]
        · rw [if_neg h3, if_neg (by omega)]
          rw [if_neg (by omega)]
          congr 1; omega
theorem fill_sound {i : TI} {pl : Nat → Option (Nat × Nat)} {place : Nat → Option (Nat × Nat)} (hpl : ∀ f q, place f = some q → pl f = some q) :
    ∀ (parts : List (Nat × AV)) (vals : List (Nat × Value)) (cs cs' : List C) (xs : Array Value), All2 (fun (a : Nat × AV) (b : Nat × Value) => a.1 = b.1 ∧ AVRel w ok μ a.2 b.2) parts vals →
      buildAV i place cs parts = some cs' → All2 (CRel w ok μ) cs xs.toList → ∃ xs', Instr.fill pl xs vals = some xs' ∧ All2 (CRel w ok μ) cs' xs'.toList
  | [], _, cs, cs', xs, h, hb, hx => by
    cases h; simp [buildAV] at hb; subst hb; exact ⟨xs, rfl, hx⟩
  | (f, v) :: parts, _, cs, cs', xs, h, hb, hx => by
    cases h with
    | @cons _ b _ vals h t =>
    obtain ⟨f', x⟩ := b
    obtain ⟨rfl, hv⟩ := h
    unfold buildAV at hb
    split at hb
    · rename_i o k ys hpf hys
      split at hb
      · rename_i hc
        obtain ⟨hk, hle⟩ := hc
        have hcell := cellsAV_rel hys hv
        have hlen : x.cells.size = k := by have := hcell.length; simp at this; omega
        have hsz : cs.length = xs.size := by simpa using hx.length
        have hfold := foldl_set x.cells.toList o 0 xs (by simp [hlen]; omega)
        have hfold' : (x.cells.zipIdx.foldl (fun cs (c, j) => cs.setIfInBounds (o + j) c) xs).toList = xs.toList.take o ++ x.cells.toList ++ xs.toList.drop (o + k) := by
          rw [← Array.foldl_toList, Array.toList_zipIdx, hfold]
          simp [hlen]
        have hx' : All2 (CRel w ok μ) (cs.take o ++ ys ++ cs.drop (o + k)) (x.cells.zipIdx.foldl (fun cs (c, j) => cs.setIfInBounds (o + j) c) xs).toList := by
          rw [hfold']; exact ((hx.take o).append hcell).append (hx.drop _)
        obtain ⟨xs', h1, h2⟩ := fill_sound hpl parts vals _ cs' _ t hb hx'
        refine ⟨xs', ?_, h2⟩
        simp only [Instr.fill, hpl _ _ hpf]
        rw [if_neg (by simp [hlen]; omega)]
        exact h1
      · cases hb
    · cases hb
theorem build_sound {t : TypeId} {i : TI} {parts : List (Nat × AV)} {vals : Array (Nat × Value)} {cs' : List C} (hi : tiOf P t = some i)
    (h : buildAV i (placesOf P i) (i.zero.map vC) parts = some cs') (hg : elemOk P i = true) (hv : All2 (fun (a : Nat × AV) (b : Nat × Value) => a.1 = b.1 ∧ AVRel w ok μ a.2 b.2) parts vals.toList) :
    ∃ y, (Instr.build t vals).run P w = .ok y w ∧ AVRel w ok μ (.agg cs') y := by
  have hti := tiOf_spec hi
  obtain ⟨it, hit, hsz, _, z, hz, hzs, hzl⟩ := hti.info
  have hz0 : All2 (CRel w ok μ) (i.zero.map vC) z.cells.toList := zeroC_rel hzs
  unfold elemOk at hg
  split at hg
  case h_2 fs hfs =>
    obtain ⟨as, hu, hmap, hfz⟩ := hti.struct hfs
    have hm : ∃ places, as.toList.mapM (fun f => (P.info? f.type).map fun i => (f.offset, i.size)) = some places ∧ ∀ (k : Nat) q, placesOf P i k = some q → places[k]? = some q := by
      have key : ∀ (l : List Field), (∀ f ∈ l, ∃ j, P.info? f.type = some j ∧ j.size ≠ 0) → ∃ places, l.mapM (fun f => (P.info? f.type).map fun i => (f.offset, i.size)) = some places ∧
          ∀ (k : Nat) f, l[k]? = some f → ∀ j, P.info? f.type = some j → places[k]? = some (f.offset, j.size) := by
        intro l
        induction l with
        | nil => intro _; exact ⟨[], rfl, fun k f hf => by simp at hf⟩
        | cons f l ih =>
          intro hl
          obtain ⟨places, h1, h2⟩ := ih fun g hg => hl g (List.mem_cons_of_mem _ hg)
          obtain ⟨j, hj, _⟩ := hl f (List.mem_cons_self ..)
          refine ⟨(f.offset, j.size) :: places, by simp [List.mapM_cons, hj, h1], ?_⟩
          intro k g hg j' hj'
          cases k with
          | zero => simp at hg; subst hg; rw [hj] at hj'; cases hj'; rfl
          | succ k => simpa using h2 k g (by simpa using hg) j' hj'
      obtain ⟨places, h1, h2⟩ := key as.toList hfz
      refine ⟨places, h1, fun k q hq => ?_⟩
      unfold placesOf at hq
      rw [hfs] at hq
      simp only at hq
      split at hq
      · rename_i ft o hf
        split at hq
        · rename_i j hj
          cases hq
          rw [hmap, List.getElem?_map] at hf
          obtain ⟨fd, hfd, he⟩ := Option.map_eq_some_iff.1 hf
          cases he
          obtain ⟨j', hj', hs'⟩ := (tiOf_spec hj).size
          rw [← hs']; exact h2 k fd hfd j' hj'
        · cases hq
      · cases hq
    obtain ⟨places, hp1, hp2⟩ := hm
    obtain ⟨xs', h1, h2⟩ := fill_sound (pl := (places.toArray[·]?)) (fun f q hq => by simpa using hp2 f q hq) parts vals.toList _ cs' z.cells hv h hz0
    refine ⟨_, run_build w t vals xs' ?_, .agg h2⟩
    simp only [Program.built, hit, hu, hz, hp1, h1]
  case h_1 q e hfs =>
    have hu := hti.array hfs
    obtain ⟨jj, hjj⟩ := Option.isSome_iff_exists.1 hg
    obtain ⟨j, hj1, hs'⟩ := (tiOf_spec hjj).size
    have hj2 : ∀ f q, placesOf P i f = some q → q = (f * j.size, j.size) := by
      intro f q hq
      unfold placesOf at hq; rw [hfs] at hq; simp only [hjj] at hq
      cases hq; rw [hs']
    obtain ⟨xs', h1, h2⟩ := fill_sound (pl := fun i => some (i * j.size, j.size)) (fun f q hq => by rw [hj2 f q hq]) parts vals.toList _ cs' z.cells hv h hz0
    refine ⟨_, run_build w t vals xs' ?_, .agg h2⟩
    simp only [Program.built, hit, hu, hz, hj1, h1]
  case h_3 => cases hg
theorem run_len_slice {t : TypeId} {e : TypeId} (hu : P.underlying t = some (.slice e)) (a : Option Addr) (l c ty : Nat) : (Builtin.len_ #[t] ty #[.slice a l c]).run P w = .ok (.int .i64 l) w := by
  simp [Builtin.len_, run_underlying hu, goInt]
theorem run_len_string {t : TypeId} (hu : P.underlying t = some .string) (s : ByteArray) (ty : Nat) : (Builtin.len_ #[t] ty #[.string s]).run P w = .ok (.int .i64 s.size) w := by
  simp [Builtin.len_, run_underlying hu, goInt]
theorem run_len_map {t k e : TypeId} (hu : P.underlying t = some (.map k e)) {b : Nat} {ms : Array MapEntry} {clock : Nat} (hb : w.heap[b]? = some (.map ms clock)) (ty : Nat) : (Builtin.len_ #[t] ty #[.map (some b)]).run P w = .ok (.int .i64 ms.size) w := by
  simp [Builtin.len_, run_underlying hu, goInt, MapKept.run_getObj_map hb]
theorem run_len_array {t e q : TypeId} (hu : P.underlying t = some (.array q e)) (x : Value) (ty : Nat) : (Builtin.len_ #[t] ty #[x]).run P w = .ok (.int .i64 q) w := by
  cases x <;> simp [Builtin.len_, run_underlying hu, goInt]
theorem avCs_rel {ρ : Operand → Value} {ev : Operand → AV} (hev : ∀ x, AVRel w ok μ (ev x) (ρ x)) : ∀ {l : List Operand} {cs : List C}, avCs (l.map ev) = some cs → All2 (CRel w ok μ) cs (l.map ρ)
  | [], cs, h => by cases h; exact .nil
  | x :: l, cs, h => by
    simp only [List.map_cons] at h
    unfold avCs at h
    split at h
    · rename_i c cs' hc hcs
      cases h
      refine .cons ?_ (avCs_rel hev hcs)
      have hx := hev x
      unfold avC at hc
      split at hc
      · rename_i c' he; cases hc; rw [he] at hx; cases hx; assumption
      · cases hc
    · cases h
theorem minmax_rel {isMax : Bool} {l : List AV} {xs : List Value} {r : AV} (h : minmaxI isMax l = some r) (hl : AVRels w ok μ l xs) :
    ∃ k k' a b, xs = [.int k a, .int k' b] ∧ r = .one (.v (.lit (.int k (if isMax then (if a < b then b else a) else (if b < a then b else a))))) := by
  unfold minmaxI at h
  split at h
  · cases h
    cases hl with | cons h1 hl =>
    cases hl with | cons h2 hl =>
    cases hl
    obtain rfl := lit_rel h1
    obtain rfl := lit_rel h2
    exact ⟨_, _, _, _, rfl, rfl⟩
  · cases h
theorem avrels_map {ρ : Operand → Value} {ev : Operand → AV} (hev : ∀ x, AVRel w ok μ (ev x) (ρ x)) : ∀ (l : List Operand), AVRels w ok μ (l.map ev) (l.map ρ)
  | [] => .nil
  | x :: l => .cons (hev x) (avrels_map hev l)
theorem agg_rel {cs : List C} {x : Value} (h : AVRel w ok μ (.agg cs) x) : ∃ xs, x = .agg xs ∧ All2 (CRel w ok μ) cs xs.toList := by
  cases h with | agg h => exact ⟨_, rfl, h⟩
theorem avrels_get : ∀ {l : List AV} {xs : List Value}, AVRels w ok μ l xs → ∀ {i : Nat} {v : AV}, l[i]? = some v → ∃ x, xs[i]? = some x ∧ AVRel w ok μ v x
  | _, _, .nil, i, v, h => by simp at h
  | _, _, .cons h t, 0, v, hv => by simp at hv; subst hv; exact ⟨_, rfl, h⟩
  | _, _, .cons h t, i + 1, v, hv => by simpa using avrels_get t (by simpa using hv)
theorem opt_rel {ρ : Operand → Value} {ev : Operand → AV} (hev : ∀ x, AVRel w ok μ (ev x) (ρ x)) (o : Option Operand) :
    (∀ v, o.map ev = some v → ∃ x, o.map ρ = some x ∧ AVRel w ok μ v x) ∧ (o.map ev = none → o.map ρ = none) := by
  cases o with
  | none => exact ⟨fun v h => by simp at h, fun _ => rfl⟩
  | some x => exact ⟨fun v h => by simp at h; subst h; exact ⟨_, rfl, hev x⟩, fun h => by simp at h⟩
theorem parts_rel {ρ : Operand → Value} {ev : Operand → AV} (hev : ∀ x, AVRel w ok μ (ev x) (ρ x)) : ∀ (l : List (Nat × Operand)),
    All2 (fun (a : Nat × AV) (b : Nat × Value) => a.1 = b.1 ∧ AVRel w ok μ a.2 b.2) (l.map fun (k, x) => (k, ev x)) (l.map fun (k, x) => (k, ρ x))
  | [] => .nil
  | (k, x) :: l => .cons ⟨rfl, hev x⟩ (parts_rel hev l)
theorem pureOp_sound {o : Oper} {ρ : Operand → Value} {ev : Operand → AV} {p : Prop} {r : AV} (hr : HR w ok μ hp) (hev : ∀ x, AVRel w ok μ (ev x) (ρ x))
    (h : pureOp P hp ev o.op = some (p, r)) (hp' : p) : ∃ x, (execOp ρ o).run P w = .ok (.value x) w ∧ AVRel w ok μ r x := by
  unfold pureOp at h
  split at h
  · rename_i x he; cases h; exact ⟨_, by simp [execOp, he], hev x⟩
  · rename_i x he; cases h; exact ⟨_, by simp [execOp, he], hev x⟩
  · rename_i t a he
    split at h
    · rename_i i hi
      obtain ⟨v, hv, e⟩ := Option.map_eq_some_iff.1 h
      cases e
      obtain ⟨y, h1, h2⟩ := load_sound (s := ⟨[], fun _ => .any, hp⟩) hr hi hv (hev a)
      exact ⟨y, by simp [execOp, he, h1], h2⟩
    · cases h
  · rename_i op t x y yt he
    have hx := hev x
    have hy := hev y
    unfold binAV at h
    split at h
    · rename_i va vb hxe hye
      rw [hxe] at hx; rw [hye] at hy
      obtain ⟨⟨p', v⟩, hv, e⟩ := Option.map_eq_some_iff.1 h
      cases e
      obtain hx' := lit_rel hx
      obtain hy' := lit_rel hy
      obtain ⟨h1, h2⟩ := run_binV (w := w) hv hp' x y
      refine ⟨v, ?_, avlit h2⟩
      simp only [execOp, he, hx', hy']
      simp only [Sem.run_bind] at h1 ⊢
      rw [h1]; rfl
    · rename_i xs ys hxe hye
      rw [hxe] at hx; rw [hye] at hy
      split at h
      · rename_i i hi
        split at h
        · cases h
        · rename_i hne
          obtain ⟨xv, hxr, hall⟩ := agg_rel hx
          obtain ⟨yv, hyr, hall2⟩ := agg_rel hy
          have hflat := (tiOf_spec hi).flat
          have hn : i.flat ≠ [] := by simpa using hne
          unfold flatOf at hflat
          split at hflat
          · exact (hn hflat).elim
          · rename_i hguard
            split at hflat
            · rename_i fs hu
              cases hfb : flatB P 12 t with
              | none => rw [hfb] at hflat; exact (hn hflat).elim
              | some l =>
                rw [hfb] at hflat
                simp only [Option.getD_some] at hflat
                have hagg : aggB P t = true := by simp [aggB, hu]
                have hg : ∀ b : BinOp, (eqGuard b t x y (.agg xv) (.agg yv)).run P w = .ok () w := fun b => run_eqGuard_agg w b t x y xv yv (by simpa using hguard)
                have fin : ∀ b : Bool, eqCells i.flat xs ys = some b → (Op.equalIn 10000 t (.agg xv) (.agg yv)).run P w = .ok b w := by
                  intro b hb
                  obtain ⟨rfl, hf⟩ := eqCells_rel hb hall hall2
                  rw [hflat] at hf
                  have := run_flat 12 t l 9988 hfb xv.toList yv.toList w hf
                  simpa [mkT, hagg] using this
                split at h
                · rename_i b hb
                  cases h
                  refine ⟨.bool b, ?_, avlit rfl⟩
                  simp only [execOp, he, hxr, hyr, Sem.run_bind, hg, Result.andThen_ok, run_eql_struct, fin b hb, Sem.run_pure]
                · rename_i b hb
                  cases h
                  refine ⟨.bool (!b), ?_, avlit rfl⟩
                  simp only [execOp, he, hxr, hyr, Sem.run_bind, hg, Result.andThen_ok, run_neq_struct, fin b hb, Sem.run_pure]
                · cases h
            · exact (hn hflat).elim
      · cases h
    · cases h
  · rename_i op t x he
    have hx := hev x
    obtain ⟨v, hv, e⟩ := Option.map_eq_some_iff.1 h
    cases e
    unfold unAV at hv
    split at hv
    · rename_i k m hxe
      rw [hxe] at hx
      have hx' := lit_rel hx
      cases op <;> simp at hv <;> subst hv
      exact ⟨_, by simp [execOp, he, hx', Op.unary, Op.intArith], avlit rfl⟩
    · rename_i b hxe
      rw [hxe] at hx
      have hx' := lit_rel hx
      cases op <;> simp at hv <;> subst hv
      exact ⟨_, by simp [execOp, he, hx', Op.unary], avlit rfl⟩
    · cases hv
  · rename_i src dst x he
    obtain ⟨v, hv, e⟩ := Option.map_eq_some_iff.1 h
    cases e
    obtain ⟨y, h1, h2⟩ := conv_sound hr hv (hev x)
    exact ⟨y, by simp [execOp, he, h1], h2⟩
  · rename_i t x lo hi mx he
    split at h
    · rename_i i hi'
      have hx := hev x
      obtain ⟨l1, l2⟩ := opt_rel hev lo
      obtain ⟨h1, h2⟩ := opt_rel hev hi
      obtain ⟨m1, m2⟩ := opt_rel hev mx
      unfold sliceAV at h
      split at h
      · rename_i hs
        have hu := (tiOf_spec hi').string hs
        split at h
        · rename_i s hxe hmx
          rw [hxe] at hx
          have hx' := lit_rel hx
          have hmx' := m2 hmx
          split at h
          · rename_i l hh hl hhh
            cases h
            obtain ⟨q0, q1, q2⟩ := hp'
            refine ⟨.string (s.extract l.toNat hh.toNat), ?_, avlit rfl⟩
            simp only [execOp, he, hx', hmx', run_sliceAt_string w t _ _ _ _ hu, Sem.run_bind]
            rcases bound_cases hl l1 l2 with ⟨hlo, rfl⟩ | ⟨kl, hlo⟩ <;> rcases bound_cases hhh h1 h2 with ⟨hhi, rfl⟩ | ⟨kh, hhi⟩
            · simp [Instr.slice, run_underlying hu, hlo, hhi, Instr.sliceBounds]
            · simp [Instr.slice, run_underlying hu, hlo, hhi, Instr.sliceBounds, run_sliceBound' (P := P) (w := w) kh hh s.size .sliceAlen (by omega) q2]
            · simp [Instr.slice, run_underlying hu, hlo, hhi, Instr.sliceBounds, run_sliceBound' (P := P) (w := w) kl l s.size .sliceB q0 (by omega)]
            · simp [Instr.slice, run_underlying hu, hlo, hhi, Instr.sliceBounds, run_sliceBound' (P := P) (w := w) kh hh s.size .sliceAlen (by omega) q2, run_sliceBound' (P := P) (w := w) kl l hh.toNat .sliceB q0 (by omega)]
          · cases h
        · cases h
      · rename_i e hs
        have hu := (tiOf_spec hi').slice hs
        split at h
        · rename_i j hj
          split at h
          · rename_i rows hxe
            rw [hxe] at hx
            cases hxv : ρ x with
            | slice a len cap =>
              rw [hxv] at hx
              cases hx with | one hc => cases hc with | v hc =>
              have hlen : len = rows.length := by cases hc <;> rfl
              subst hlen
              obtain ⟨z, hz1, hz2⟩ := slice_rows_sound hu hj hc h hp' l1 l2 h1 h2 m1 m2
              exact ⟨z, by simp [execOp, he, hxv, hz1], hz2⟩
            | _ => rw [hxv] at hx; cases hx with | one hc => cases hc with | v hc => cases hc
          · rename_i rows hxe
            rw [hxe] at hx
            cases hxv : ρ x with
            | slice a len cap =>
              rw [hxv] at hx
              cases hx with | one hc => cases hc with | full hc =>
              obtain ⟨z, hz1, hz2⟩ := slice_rows_sound hu hj hc h hp' l1 l2 h1 h2 m1 m2
              exact ⟨z, by simp [execOp, he, hxv, hz1], hz2⟩
            | _ => rw [hxv] at hx; cases hx with | one hc => cases hc
          · rename_i hxe
            rw [hxe] at hx
            cases hxv : ρ x with
            | slice a len cap =>
              rw [hxv] at hx
              cases hx with | one hc => cases hc with | nil =>
              obtain ⟨z, hz1, hz2⟩ := slice_rows_sound (a := none) (cap := 0) (rows := []) hu hj .nil h hp' l1 l2 h1 h2 m1 m2
              have hz1' : (Instr.sliceAt t (.slice none 0 0) (lo.map ρ) (hi.map ρ) (mx.map ρ)).run P w = .ok z w := hz1
              exact ⟨z, by simp [execOp, he, hxv, hz1'], hz2⟩
            | _ => rw [hxv] at hx; cases hx with | one hc => cases hc
          · rename_i i' k off len c hxe
            split at h
            · rename_i hk
              subst hk
              rw [hxe] at hx
              cases hx with | one hc =>
              obtain ⟨z, hz1, hz2⟩ := slice_sub_sound hu hj hc h hp' l1 l2 h1 h2 m1 m2
              exact ⟨z, by simp [execOp, he, hz1], hz2⟩
            · cases h
          · cases h
        · cases h
      · cases h
    · cases h
  · rename_i t x f he
    split at h
    · rename_i i hi
      obtain ⟨v, hv, e⟩ := Option.map_eq_some_iff.1 h
      cases e
      obtain ⟨y, h1, h2⟩ := fieldAddr_sound hi hv (hev x)
      exact ⟨y, by simp [execOp, he, h1], h2⟩
    · cases h
  · rename_i t x f he
    split at h
    · rename_i i hi
      obtain ⟨v, hv, e⟩ := Option.map_eq_some_iff.1 h
      cases e
      obtain ⟨y, h1, h2⟩ := field_sound hi hv (hev x)
      exact ⟨y, by simp [execOp, he, h1], h2⟩
    · cases h
  · rename_i t x ix he
    split at h
    · rename_i i m hi hm
      obtain ⟨k, hk⟩ := intOfAV_rel hm (hev ix)
      obtain ⟨y, h1, h2⟩ := indexAddr_sound hr hi h hp' (hev x) hk
      exact ⟨y, by simp [execOp, he, h1], h2⟩
    · cases h
  · rename_i t x ix he
    split at h
    · rename_i i m hi hm
      obtain ⟨k, hk⟩ := intOfAV_rel hm (hev ix)
      obtain ⟨y, h1, h2⟩ := index_sound hi h hp' (hev x) hk
      exact ⟨y, by simp [execOp, he, h1], h2⟩
    · cases h
  · rename_i t i he
    split at h
    · rename_i l hl
      obtain ⟨v, hv, e⟩ := Option.map_eq_some_iff.1 h
      cases e
      have hx := hev t
      rw [hl] at hx
      cases hxv : ρ t with
      | tuple xs =>
        rw [hxv] at hx
        cases hx with | tup hx =>
        obtain ⟨x, hx1, hx2⟩ := avrels_get hx hv
        refine ⟨x, ?_, hx2⟩
        have : xs[i]? = some x := by simpa using hx1
        simp [execOp, he, hxv, Instr.extract, this]
      | _ => rw [hxv] at hx; cases hx
    · cases h
  · rename_i x he
    have hx := hev x
    split at h
    · rename_i hxe; cases h; rw [hxe] at hx
      refine ⟨ρ x, ?_, hx⟩
      cases hxv : ρ x <;> rw [hxv] at hx <;> first
        | (cases hx with | one hc => cases hc; simp [execOp, he, hxv])
        | (cases hx with | one hc => cases hc)
    · rename_i hxe; cases h; rw [hxe] at hx
      refine ⟨ρ x, ?_, hx⟩
      cases hxv : ρ x <;> rw [hxv] at hx <;> first
        | (cases hx with | one hc => cases hc; simp [execOp, he, hxv])
        | (cases hx with | one hc => cases hc)
    · rename_i hxe; cases h; rw [hxe] at hx
      refine ⟨ρ x, ?_, hx⟩
      cases hxv : ρ x <;> rw [hxv] at hx <;> first
        | (cases hx with | one hc => cases hc; simp [execOp, he, hxv])
        | (cases hx with | one hc => cases hc)
    · rename_i hxe; cases h; rw [hxe] at hx
      refine ⟨ρ x, ?_, hx⟩
      cases hxv : ρ x <;> rw [hxv] at hx <;> first
        | (cases hx; simp [execOp, he, hxv])
        | (cases hx)
    · cases h
  · rename_i f first caps he
    split at h
    · rename_i a b ha hb
      cases h
      exact ⟨.func (.func f) (first.map ρ) (caps.map ρ), by simp [execOp, he, Instr.makeFunc], .fn (by simpa using avCs_rel hev ha) (by simpa using avCs_rel hev hb)⟩
    · cases h
  · rename_i t parts he
    split at h
    · rename_i i hi
      split at h
      · rename_i hg
        obtain ⟨cs, hcs, e⟩ := Option.map_eq_some_iff.1 h
        cases e
        obtain ⟨y, h1, h2⟩ := build_sound (vals := parts.map fun (k, x) => (k, ρ x)) hi hcs hg (by simpa using parts_rel hev parts.toList)
        exact ⟨y, by simp [execOp, he, h1], h2⟩
      · cases h
    · cases h
  · rename_i t x k okk he
    obtain ⟨y, h1, h2⟩ := look_sound hr (hev x) (hev k) h
    exact ⟨y, by simp [execOp, he, h1], h2⟩
  · rename_i args ts he
    split at h
    · rename_i x t hargs hts
      obtain rfl : args = #[x] := by apply Array.ext'; simpa using hargs
      obtain rfl : ts = #[t] := by apply Array.ext'; simpa using hts
      have hx := hev x
      split at h
      · rename_i hs
        obtain ⟨i, hi, hi'⟩ := Option.map_eq_some_iff.1 hs
        have hu := (tiOf_spec hi).string hi'
        split at h
        · rename_i s hxe
          cases h
          rw [hxe] at hx
          have hx' := lit_rel hx
          exact ⟨_, by simp [execOp, he, resolve, invoke, builtin, hx', run_len_string hu], avlit rfl⟩
        · cases h
      · rename_i e hs
        obtain ⟨i, hi, hi'⟩ := Option.map_eq_some_iff.1 hs
        have hu := (tiOf_spec hi).slice hi'
        split at h
        · rename_i i' k off len c hxe
          cases h
          rw [hxe] at hx
          cases hx with | one hc => cases hc with | sub _ _ _ _ hμ hs =>
          obtain ⟨a, hxv⟩ := sub_len hs
          exact ⟨_, by simp [execOp, he, resolve, invoke, builtin, hxv, run_len_slice hu], avlit rfl⟩
        obtain ⟨rows, hrows, e'⟩ := Option.map_eq_some_iff.1 h
        cases e'
        obtain ⟨a, cap, hxv⟩ := (rowsOf_rel hr hrows hx).len
        exact ⟨_, by simp [execOp, he, resolve, invoke, builtin, hxv, run_len_slice hu], avlit rfl⟩
      · rename_i q e hs
        cases h
        obtain ⟨i, hi, hi'⟩ := Option.map_eq_some_iff.1 hs
        have hu := (tiOf_spec hi).array hi'
        exact ⟨_, by simp [execOp, he, resolve, invoke, builtin, run_len_array hu], avlit rfl⟩
      · unfold mpLen at h
        split at h
        · rename_i e i hm hxe
          split at h
          · rename_i u es hi
            cases h
            obtain ⟨k, e', _, hu, _⟩ := mapTy_spec hm
            rw [hxe] at hx
            obtain ⟨m, hμ, hb⟩ := hr.rel _ _ hi
            obtain ⟨xv, hxv⟩ : ∃ xv, ρ x = xv := ⟨_, rfl⟩
            rw [hxv] at hx
            cases hx with | one hc => cases hc with | mp hc =>
            rw [hc] at hμ; cases hμ
            obtain ⟨ms, clock, h1, h2, _⟩ := hb
            have hlen : ms.size = es.length := by have := congrArg List.length h2; simpa using this
            exact ⟨_, by simp [execOp, he, resolve, invoke, builtin, hxv, run_len_map hu h1, hlen], avlit rfl⟩
          · cases h
        · cases h
      · cases h
    · cases h
  · rename_i args ts he
    obtain ⟨v, hv, e⟩ := Option.map_eq_some_iff.1 h
    cases e
    obtain ⟨k, k', a, b, hl, rfl⟩ := minmax_rel hv (avrels_map hev args.toList)
    refine ⟨_, ?_, avlit rfl⟩
    simp only [execOp, he, resolve, invoke, builtin, Sem.run_bind, Sem.run_pure, Result.andThen_ok, Builtin.min_, Array.toList_map, hl]
    simp [Builtin.min2]
  · rename_i args ts he
    obtain ⟨v, hv, e⟩ := Option.map_eq_some_iff.1 h
    cases e
    obtain ⟨k, k', a, b, hl, rfl⟩ := minmax_rel hv (avrels_map hev args.toList)
    refine ⟨_, ?_, avlit rfl⟩
    simp only [execOp, he, resolve, invoke, builtin, Sem.run_bind, Sem.run_pure, Result.andThen_ok, Builtin.max_, Array.toList_map, hl]
    simp [Builtin.max2]
  · cases h
end
end Go.Proofs.AE
