/- The abstract evaluator, part 1: abstract values, what it means that memory holds them, and that this lasts. -/
import Derived.WalkKit
import Derived.Below
import Derived.Laws.AppendOwn
import Derived.Laws.OwnMore
import Derived.Laws.CopyRow
import Derived.Laws.Rows
import Derived.Laws.StructEq
import Derived.Laws.Build
import Derived.Laws.IdiomElems
set_option linter.unusedVariables false
set_option linter.unusedSimpArgs false
namespace Go.Proofs.AE
open Go Go.RowKit

/-! ### lists side by side -/
inductive All2 {α β : Type} (R : α → β → Prop) : List α → List β → Prop where
  | nil : All2 R [] []
  | cons {a : α} {b : β} {l : List α} {m : List β} (h : R a b) (t : All2 R l m) : All2 R (a :: l) (b :: m)

namespace All2
variable {α β : Type} {R S : α → β → Prop}
theorem mono (hs : ∀ a b, R a b → S a b) {l : List α} {m : List β} (h : All2 R l m) : All2 S l m := by
  induction h with
  | nil => exact .nil
  | cons h _ ih => exact .cons (hs _ _ h) ih
theorem length {l : List α} {m : List β} (h : All2 R l m) : l.length = m.length := by
  induction h with
  | nil => rfl
  | cons _ _ ih => simp [ih]
theorem get {l : List α} {m : List β} (h : All2 R l m) : ∀ {i : Nat} {a : α}, l[i]? = some a → ∃ b, m[i]? = some b ∧ R a b := by
  induction h with
  | nil => intro i a hi; simp at hi
  | cons h _ ih =>
    intro i a hi
    cases i with
    | zero => simp at hi; subst hi; exact ⟨_, rfl, h⟩
    | succ i => simpa using ih (by simpa using hi)
theorem of_get {l : List α} {m : List β} (hl : l.length = m.length) (h : ∀ (i : Nat) a b, l[i]? = some a → m[i]? = some b → R a b) : All2 R l m := by
  induction l generalizing m with
  | nil => cases m with | nil => exact .nil | cons => simp at hl
  | cons a l ih =>
    cases m with
    | nil => simp at hl
    | cons b m => exact .cons (h 0 a b rfl rfl) (ih (by simpa using hl) fun i x y hx hy => h (i + 1) x y (by simpa using hx) (by simpa using hy))
theorem append {l l' : List α} {m m' : List β} (h : All2 R l m) (h' : All2 R l' m') : All2 R (l ++ l') (m ++ m') := by
  induction h with
  | nil => exact h'
  | cons h _ ih => exact .cons h ih
theorem drop {l : List α} {m : List β} (h : All2 R l m) (n : Nat) : All2 R (l.drop n) (m.drop n) := by
  induction h generalizing n with
  | nil => simp; exact .nil
  | cons h t ih => cases n with | zero => exact .cons h t | succ n => simpa using ih n
theorem take {l : List α} {m : List β} (h : All2 R l m) (n : Nat) : All2 R (l.take n) (m.take n) := by
  induction h generalizing n with
  | nil => simp; exact .nil
  | cons h t ih => cases n with | zero => exact .nil | succ n => simpa using .cons h (ih n)
theorem set {l : List α} {m : List β} (h : All2 R l m) {a : α} {b : β} (hab : R a b) (i : Nat) : All2 R (l.set i a) (m.set i b) := by
  induction h generalizing i with
  | nil => simp; exact .nil
  | cons h t ih => cases i with | zero => exact .cons hab t | succ i => exact .cons h (ih i)
theorem mem {l : List α} {m : List β} (h : All2 R l m) {b : β} (hb : b ∈ m) : ∃ a, a ∈ l ∧ R a b := by
  induction h with
  | nil => simp at hb
  | cons h t ih =>
    rcases List.mem_cons.1 hb with rfl | hb
    · exact ⟨_, List.mem_cons_self .., h⟩
    · obtain ⟨a, ha, r⟩ := ih hb; exact ⟨a, List.mem_cons_of_mem _ ha, r⟩
theorem map_left {γ : Type} {f : γ → α} {l : List γ} {m : List β} (h : All2 (fun c b => R (f c) b) l m) : All2 R (l.map f) m := by
  induction h with
  | nil => exact .nil
  | cons h _ ih => exact .cons h ih
end All2

/-! ### abstract values -/
/-- Plain data, one memory cell: a whole value of one cell, or a slice by what it holds (its rows: the cells of each element). -/
inductive V where
  | lit (x : Value)
  | sl (rows : List (List V))

/-- One cell of the running function: plain data, a pointer into a block of its own (block, row, cells of a row, place), the slice over a block of its own, a pointer to plain data, a slice without spare room, or unknown. -/
inductive C where
  | v (d : V)
  | ptr (i : Nat) (off : Nat)
  | eptr (i row k off : Nat)
  | ar (i : Nat)
  | sub (i k off len : Nat)
  | vptr (cs : List V)
  | full (rows : List (List V))
  | nil
  | any

inductive AV where
  | one (c : C)
  | agg (cs : List C)
  | tup (l : List AV)
  | fn (f : Nat) (first caps : List C)
  | any

/-- A block of the function's own: a variable, or the array behind a slice. -/
inductive Blk where
  | box (t : TypeId) (cs : List C)
  | arr (e : TypeId) (k : Nat) (rows : List (List V))
  | arj (e : TypeId) (k c : Nat) (rows : List (List V))

/-- Where a block lies: a box's number, a slice's value. -/
inductive MB where
  | box (b : Nat)
  | arr (x : Value)

def MB.own : MB → Option Nat
  | .box b => some b
  | .arr x => x.ownBlock

/-! ### relations -/
inductive VRel (w : World) (ok : Nat → Prop) : V → Value → Prop where
  | lit (x : Value) (h : x.oneCell' = true) : VRel w ok (.lit x) x
  | nil : VRel w ok (.sl []) (.slice none 0 0)
  | sl (rows : List (List V)) (b off cap : Nat) (cv : Nat → Nat → Value) (hok : rows ≠ [] → ok b) (hcap : rows.length ≤ cap) (hmax : cap ≤ maxLen)
      (hc : ∀ (i : Nat) row (j : Nat) v, rows[i]? = some row → row[j]? = some v → w.cell? ⟨b, off + (i * row.length + j), none⟩ = some (cv i j))
      (hv : ∀ (i : Nat) row (j : Nat) v, rows[i]? = some row → row[j]? = some v → VRel w ok v (cv i j)) :
      VRel w ok (.sl rows) (.slice (some ⟨b, off, none⟩) rows.length cap)

theorem VRel.oneCell {w : World} {ok : Nat → Prop} {v : V} {x : Value} (h : VRel w ok v x) : x.oneCell' = true := by
  cases h <;> first | assumption | rfl

theorem VRel.mono {w w' : World} {ok ok' : Nat → Prop} (hw : ∀ b, ok b → w'.heap[b]? = w.heap[b]?) (ho : ∀ b, ok b → ok' b) {v : V} {x : Value} (h : VRel w ok v x) : VRel w' ok' v x := by
  induction h with
  | lit x h => exact .lit x h
  | nil => exact .nil
  | sl rows b off cap cv hok hcap hmax hc hv ih =>
    refine .sl rows b off cap cv (fun hn => ho b (hok hn)) hcap hmax ?_ ih
    intro i row j v hi hj
    have hne : rows ≠ [] := by rintro rfl; simp at hi
    have h1 := hc i row j v hi hj
    unfold World.cell? at *
    rw [hw b (hok hne)]; exact h1

/-- A part of a slice: so many elements from a place on (where no room is left behind it, the address may stay). -/
inductive SubOf (k off len : Nat) : Value → Value → Prop where
  | nil {n c : Nat} (h : len = 0) : SubOf k off len (.slice none n c) (.slice none 0 0)
  | at {a : Addr} {n c o : Nat} (h : (off < c ∨ off = 0) → o = a.off + off * k) : SubOf k off len (.slice (some a) n c) (.slice (some ⟨a.block, o, a.spot⟩) len (c - off))

theorem SubOf.oneCell {k off len : Nat} {x y : Value} (h : SubOf k off len x y) : y.oneCell' = true := by cases h <;> rfl

inductive CRel (w : World) (ok : Nat → Prop) (μ : List MB) : C → Value → Prop where
  | v {d : V} {x : Value} (h : VRel w ok d x) : CRel w ok μ (.v d) x
  | ptr {i b : Nat} (off : Nat) (h : μ[i]? = some (.box b)) : CRel w ok μ (.ptr i off) (.pointer (some ⟨b, off, none⟩))
  | eptr {i b n cap : Nat} (row k off : Nat) (h : μ[i]? = some (.arr (.slice (some ⟨b, 0, none⟩) n cap))) : CRel w ok μ (.eptr i row k off) (.pointer (some ⟨b, row * k + off, none⟩))
  | ar {i : Nat} {x : Value} (h : μ[i]? = some (.arr x)) (h1 : x.oneCell' = true) : CRel w ok μ (.ar i) x
  | sub {i : Nat} {x y : Value} (k off len : Nat) (h : μ[i]? = some (.arr x)) (hs : SubOf k off len x y) : CRel w ok μ (.sub i k off len) y
  | vptr {cs : List V} (b off : Nat) (cv : Nat → Value) (hok : ok b) (hc : ∀ (j : Nat) v, cs[j]? = some v → w.cell? ⟨b, off + j, none⟩ = some (cv j))
      (hv : ∀ (j : Nat) v, cs[j]? = some v → VRel w ok v (cv j)) : CRel w ok μ (.vptr cs) (.pointer (some ⟨b, off, none⟩))
  | full {rows : List (List V)} {a : Option Addr} (h : VRel w ok (.sl rows) (.slice a rows.length rows.length)) : CRel w ok μ (.full rows) (.slice a rows.length rows.length)
  | nil : CRel w ok μ .nil (.slice none 0 0)
  | any {x : Value} (h : x.oneCell' = true) : CRel w ok μ .any x

theorem CRel.oneCell {w : World} {ok : Nat → Prop} {μ : List MB} {c : C} {x : Value} (h : CRel w ok μ c x) : x.oneCell' = true := by
  cases h <;> first | assumption | rfl | (exact VRel.oneCell ‹_›) | (exact SubOf.oneCell ‹_›)

theorem CRel.mono {w w' : World} {ok ok' : Nat → Prop} {μ : List MB} (hw : ∀ b, ok b → w'.heap[b]? = w.heap[b]?) (ho : ∀ b, ok b → ok' b) {c : C} {x : Value} (h : CRel w ok μ c x) : CRel w' ok' μ c x := by
  cases h with
  | v h => exact .v (h.mono hw ho)
  | ptr off h => exact .ptr off h
  | eptr r k off h => exact .eptr r k off h
  | ar h h1 => exact .ar h h1
  | sub k off len h hs => exact .sub k off len h hs
  | vptr b off cv hok hc hv =>
    refine .vptr b off cv (ho b hok) ?_ fun j v hj => (hv j v hj).mono hw ho
    intro j v hj
    have h1 := hc j v hj
    unfold World.cell? at *
    rw [hw b hok]; exact h1
  | full h => exact .full (h.mono hw ho)
  | nil => exact .nil
  | any h => exact .any h

/-- The places of other blocks may turn: what speaks of none of them stays. -/
theorem CRel.ext {w : World} {ok : Nat → Prop} {μ μ' : List MB} {c : C} {x : Value} (h : CRel w ok μ c x) (hm : ∀ (i : Nat) m, μ[i]? = some m → μ'[i]? = some m) : CRel w ok μ' c x := by
  cases h with
  | v h => exact .v h
  | ptr off h => exact .ptr off (hm _ _ h)
  | eptr r k off h => exact .eptr r k off (hm _ _ h)
  | ar h h1 => exact .ar (hm _ _ h) h1
  | sub k off len h hs => exact .sub k off len (hm _ _ h) hs
  | vptr b off cv hok hc hv => exact .vptr b off cv hok hc hv
  | full h => exact .full h
  | nil => exact .nil
  | any h => exact .any h

mutual
/-- The relation of values. -/
inductive AVRel (w : World) (ok : Nat → Prop) (μ : List MB) : AV → Value → Prop where
  | one {c : C} {x : Value} (h : CRel w ok μ c x) : AVRel w ok μ (.one c) x
  | agg {cs : List C} {xs : Array Value} (h : All2 (CRel w ok μ) cs xs.toList) : AVRel w ok μ (.agg cs) (.agg xs)
  | tup {l : List AV} {xs : Array Value} (h : AVRels w ok μ l xs.toList) : AVRel w ok μ (.tup l) (.tuple xs)
  | fn {f : Nat} {first caps : List C} {fs xs : Array Value} (h : All2 (CRel w ok μ) first fs.toList) (h' : All2 (CRel w ok μ) caps xs.toList) : AVRel w ok μ (.fn f first caps) (.func (.func f) fs xs)
  | any {x : Value} : AVRel w ok μ .any x
inductive AVRels (w : World) (ok : Nat → Prop) (μ : List MB) : List AV → List Value → Prop where
  | nil : AVRels w ok μ [] []
  | cons {v : AV} {x : Value} {l : List AV} {xs : List Value} (h : AVRel w ok μ v x) (t : AVRels w ok μ l xs) : AVRels w ok μ (v :: l) (x :: xs)
end

mutual
theorem AVRel.mono {w w' : World} {ok ok' : Nat → Prop} {μ : List MB} (hw : ∀ b, ok b → w'.heap[b]? = w.heap[b]?) (ho : ∀ b, ok b → ok' b) : ∀ {v : AV} {x : Value}, AVRel w ok μ v x → AVRel w' ok' μ v x
  | _, _, .one h => .one (h.mono hw ho)
  | _, _, .agg h => .agg (h.mono fun _ _ h => h.mono hw ho)
  | _, _, .tup h => .tup (AVRels.mono hw ho h)
  | _, _, .fn h h' => .fn (h.mono fun _ _ h => h.mono hw ho) (h'.mono fun _ _ h => h.mono hw ho)
  | _, _, .any => .any
theorem AVRels.mono {w w' : World} {ok ok' : Nat → Prop} {μ : List MB} (hw : ∀ b, ok b → w'.heap[b]? = w.heap[b]?) (ho : ∀ b, ok b → ok' b) : ∀ {l : List AV} {xs : List Value}, AVRels w ok μ l xs → AVRels w' ok' μ l xs
  | _, _, .nil => .nil
  | _, _, .cons h t => .cons (AVRel.mono hw ho h) (AVRels.mono hw ho t)
end
mutual
theorem AVRel.ext {w : World} {ok : Nat → Prop} {μ μ' : List MB} (hm : ∀ (i : Nat) m, μ[i]? = some m → μ'[i]? = some m) : ∀ {v : AV} {x : Value}, AVRel w ok μ v x → AVRel w ok μ' v x
  | _, _, .one h => .one (h.ext hm)
  | _, _, .agg h => .agg (h.mono fun _ _ h => h.ext hm)
  | _, _, .tup h => .tup (AVRels.ext hm h)
  | _, _, .fn h h' => .fn (h.mono fun _ _ h => h.ext hm) (h'.mono fun _ _ h => h.ext hm)
  | _, _, .any => .any
theorem AVRels.ext {w : World} {ok : Nat → Prop} {μ μ' : List MB} (hm : ∀ (i : Nat) m, μ[i]? = some m → μ'[i]? = some m) : ∀ {l : List AV} {xs : List Value}, AVRels w ok μ l xs → AVRels w ok μ' l xs
  | _, _, .nil => .nil
  | _, _, .cons h t => .cons (AVRel.ext hm h) (AVRels.ext hm t)
end

/-- What a block of the function's own holds. -/
def BRel (w : World) (ok : Nat → Prop) (μ : List MB) : Blk → MB → Prop
  | .box t cs, .box b => ∃ xs : Array Value, w.heap[b]? = some (.cells xs t (0, 0)) ∧ All2 (CRel w ok μ) cs xs.toList
  | .arr e k rows, .arr x => ∃ xs, w.ownsRow 0 e k x rows.length xs ∧ All2 (VRel w ok) rows.flatten xs ∧ ∀ row ∈ rows, row.length = k
  | .arj e k c rows, .arr x => 0 < k ∧ (∀ row ∈ rows, row.length = k) ∧ ((x = .slice none 0 0 ∧ c = 0 ∧ rows = []) ∨ ∃ g n cur, x = .slice (some ⟨g, 0, none⟩) n c ∧ w.heap[g]? = some (.cells cur e (0, 0)) ∧ rows.length ≤ c ∧ c ≤ maxLen ∧ cur.size = c * k ∧ All2 (VRel w ok) rows.flatten (cur.toList.take (rows.length * k)))
  | _, _ => False

abbrev Hp := List (Option Blk)

/-- The whole of the function's own memory. -/
structure HR (w : World) (ok : Nat → Prop) (μ : List MB) (hp : Hp) : Prop where
  len : μ.length = hp.length
  rel : ∀ (i : Nat) b, hp[i]? = some (some b) → ∃ m, μ[i]? = some m ∧ BRel w ok μ b m
  inj : ∀ (i j : Nat) b c m n k, i ≠ j → hp[i]? = some (some b) → hp[j]? = some (some c) → μ[i]? = some m → μ[j]? = some n → m.own = some k → n.own ≠ some k
  okn : ∀ k, ok k → k < w.heap.size ∧ ∀ (i : Nat) b m, hp[i]? = some (some b) → μ[i]? = some m → m.own ≠ some k

end Go.Proofs.AE
