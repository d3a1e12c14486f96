/- Items as bytes: reading is the other way of writing: plain laws. -/
import Derived.Test.YtniihihcklpdgaaY
set_option linter.unusedVariables false
set_option linter.unusedSimpArgs false
set_option maxRecDepth 100000
set_option maxHeartbeats 8000000
namespace Go.Proofs.Ytniihihcklpdgaa
open Go Go.RowKit Go.Proofs.AE
structure Rd where
  rest : List UInt8
  short : Bool
def takeR (r : Rd) (n : Nat) : List UInt8 × Rd := if r.short = true ∨ r.rest.length < n then ([], ⟨r.rest, true⟩) else (r.rest.take n, ⟨r.rest.drop n, false⟩)
def uOf (l : List UInt8) : Nat := l.foldl (fun u c => (u * 256 + c.toNat) % 18446744073709551616) 0
def numOf (l : List UInt8) : Int := IntKind.i64.wrap ((uOf l : Int) - 4611686018427387904)
def numR (r : Rd) : Int × Rd := (numOf (takeR r 8).1, (takeR r 8).2)
def smallR (r : Rd) : Nat × Rd := ((match (takeR r 1).1 with | c :: _ => c.toNat | [] => 0), (takeR r 1).2)
def textR (r : Rd) : ByteArray × Rd := (⟨(takeR (smallR r).2 (smallR r).1).1.toArray⟩, (takeR (smallR r).2 (smallR r).1).2)
structure Cmd where
  k : Int
  key : ByteArray
  field : ByteArray
  text : ByteArray
  n : Int
def cmdR (r : Rd) : Cmd × Rd :=
  let a := smallR r
  let b := textR a.2
  let c := textR b.2
  let d := textR c.2
  let e := numR d.2
  (⟨a.1, b.1, c.1, d.1, e.1⟩, e.2)
def callR (r : Rd) : (Int × Int × Cmd) × Rd :=
  let a := numR r
  if a.1 = 0 then ((0, 0, ⟨0, ⟨#[]⟩, ⟨#[]⟩, ⟨#[]⟩, 0⟩), a.2)
  else
    let b := numR a.2
    let c := cmdR b.2
    ((a.1, b.1, c.1), c.2)
def itemR (r : Rd) : Item × Bool × Rd :=
  let a := numR r
  let b := numR a.2
  let c := smallR b.2
  if c.1 = 0 then
    let d := callR c.2
    (⟨a.1, b.1, false, d.1.1, d.1.2.1, d.1.2.2.k, d.1.2.2.key, d.1.2.2.field, d.1.2.2.text, d.1.2.2.n⟩, true, d.2)
  else (⟨a.1, b.1, decide (c.1 = 1), 0, 0, 0, ⟨#[]⟩, ⟨#[]⟩, ⟨#[]⟩, 0⟩, decide (c.1 = 1), c.2)
/-! ### there and back -/
theorem takeR_app (b rest : List UInt8) {n : Nat} (h : b.length = n) : takeR ⟨b ++ rest, false⟩ n = (b, ⟨rest, false⟩) := by
  subst h
  unfold takeR
  rw [if_neg (by simp), List.take_left' rfl, List.drop_left' rfl]
theorem uOf_numB {n : Int} (h : inNum n) : uOf (numB n) = numU n := by
  have hu : numU n < 18446744073709551616 := by unfold inNum at h; unfold numU; omega
  unfold uOf numB byteAt'
  generalize numU n = u at hu
  simp only [List.foldl_cons, List.foldl_nil, UInt8.toNat_ofNat']
  omega
theorem numOf_numB {n : Int} (h : inNum n) : numOf (numB n) = n := by
  unfold numOf
  rw [uOf_numB h]
  unfold inNum at h
  unfold numU
  rw [IntWalk.i64_in _ (by omega)]
  omega
theorem numR_app {n : Int} (h : inNum n) (rest : List UInt8) : numR ⟨numB n ++ rest, false⟩ = (n, ⟨rest, false⟩) := by
  unfold numR
  rw [takeR_app (numB n) rest (n := 8) rfl, numOf_numB h]
theorem smallR_app (c : UInt8) (rest : List UInt8) : smallR ⟨c :: rest, false⟩ = (c.toNat, ⟨rest, false⟩) := by
  have := takeR_app [c] rest (n := 1) rfl
  unfold smallR
  rw [show c :: rest = [c] ++ rest from rfl, this]
theorem smallB_toNat {n : Int} (h : 0 ≤ n) (h2 : n < 256) : (smallB n).toNat = n.toNat := by
  unfold smallB
  rw [UInt8.toNat_ofNat']; omega
theorem textR_app {t : ByteArray} (h : t.size ≤ 255) (rest : List UInt8) : textR ⟨textB t ++ rest, false⟩ = (t, ⟨rest, false⟩) := by
  have h1 : smallR ⟨textB t ++ rest, false⟩ = (t.size, ⟨t.data.toList ++ rest, false⟩) := by
    unfold textB
    rw [List.cons_append, smallR_app, smallB_toNat (by omega) (by omega)]
    simp
  unfold textR
  rw [h1, takeR_app _ _ (by rw [Array.length_toList]; rfl)]
theorem cmdR_app {k : Int} {key field text : ByteArray} {n : Int} (hk : 0 ≤ k ∧ k < 256) (h1 : key.size ≤ 255) (h2 : field.size ≤ 255) (h3 : text.size ≤ 255) (hn : inNum n) (rest : List UInt8) :
    cmdR ⟨cmdB k key field text n ++ rest, false⟩ = (⟨k, key, field, text, n⟩, ⟨rest, false⟩) := by
  unfold cmdR cmdB
  simp only [List.append_assoc, List.cons_append, List.nil_append, smallR_app, textR_app h1, textR_app h2, textR_app h3, numR_app hn, smallB_toNat hk.1 hk.2]
  rw [Int.toNat_of_nonneg hk.1]
theorem itemR_app {x : Item} (h : x.check = 0) (rest : List UInt8) : itemR ⟨itemB x ++ rest, false⟩ = (x, true, ⟨rest, false⟩) := by
  obtain ⟨h1, h2, h3, h4, h5, h6⟩ := item_ok h
  obtain ⟨_, _, _, b4, b5, b6, b7, b8⟩ := item_bounds h
  cases hx : x.nop
  · have e : itemB x ++ rest = numB x.term ++ (numB x.time ++ (0 :: (callB x.client x.seq x.k x.key x.field x.text x.n ++ rest))) := by simp [itemB, hx]
    unfold itemR
    rw [e]
    simp only [numR_app b7, numR_app b8, smallR_app]
    rw [if_pos (by decide)]
    rcases h6 with ⟨c1, c2, c3, c4, c5, c6, c7⟩ | ⟨c1, c2, c3, c4, c5⟩
    · have e2 : callB x.client x.seq x.k x.key x.field x.text x.n ++ rest = numB 0 ++ rest := by simp [callB, c1]
      have : callR ⟨callB x.client x.seq x.k x.key x.field x.text x.n ++ rest, false⟩ = ((0, 0, ⟨0, ⟨#[]⟩, ⟨#[]⟩, ⟨#[]⟩, 0⟩), ⟨rest, false⟩) := by
        unfold callR
        rw [e2, numR_app (by unfold inNum; omega)]
        simp
      rw [this]
      cases x
      simp_all
    · have e2 : callB x.client x.seq x.k x.key x.field x.text x.n ++ rest = numB x.client ++ (numB x.seq ++ (cmdB x.k x.key x.field x.text x.n ++ rest)) := by simp [callB, show 0 < x.client by omega]
      have hb := cmd_bounds c5
      have : callR ⟨callB x.client x.seq x.k x.key x.field x.text x.n ++ rest, false⟩ = ((x.client, x.seq, ⟨x.k, x.key, x.field, x.text, x.n⟩), ⟨rest, false⟩) := by
        unfold callR
        rw [e2]
        simp only [numR_app b5, numR_app b6, cmdR_app (k := x.k) (by omega) (by omega : x.key.size ≤ 255) (by omega : x.field.size ≤ 255) (by omega : x.text.size ≤ 255) b4]
        rw [if_neg (by omega)]
      rw [this]
      cases x
      simp_all
  · have e : itemB x ++ rest = numB x.term ++ (numB x.time ++ (1 :: rest)) := by simp [itemB, hx]
    unfold itemR
    rw [e]
    simp only [numR_app b7, numR_app b8, smallR_app]
    rw [if_neg (by decide)]
    have h0 := h5 hx
    rcases h6 with ⟨c1, c2, c3, c4, c5, c6, c7⟩ | ⟨c1, _⟩
    · cases x
      simp_all
    · omega
theorem itemB_inj {x y : Item} (hx : x.check = 0) (hy : y.check = 0) (h : itemB x = itemB y) : x = y := by
  have h1 := itemR_app hx []
  have h2 := itemR_app hy []
  rw [h, h2] at h1
  exact (congrArg (fun p => p.1) h1).symm
end Go.Proofs.Ytniihihcklpdgaa
